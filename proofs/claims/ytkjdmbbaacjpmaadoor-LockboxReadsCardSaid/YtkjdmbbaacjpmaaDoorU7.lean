-- Texts of this claim, joined and cut down to what it uses (a program of this session).
import Derived.Test.YtkjdmbbaacjpmaaDoorU6
import Derived.Deep.DeepCutAuto
import Derived.Deep.CutBlock
import Derived.Test.YtkjdmbbaacjpmaaDoorProg
import Derived.WalkKit
import Derived.LaidEql
import Derived.Stop.Asserts
import Derived.RowKitTokens
import Derived.Lib.Hide
section
namespace Go.Proofs.YtkjdmbbaacjpmaaDoor.Reader
open Go.RowKit Go.Proofs.YtkjdmbbaacjpmaaDoor.Scan Go.Proofs.YtkjdmbbaacjpmaaDoorW.PrintWords Go.Proofs.YtkjdmbbaacjpmaaDoorW.PrintLast Go.Proofs.YtkjdmbbaacjpmaaDoor.R
set_option linter.unusedVariables false
set_option linter.unusedSimpArgs false
structure ErrW (w0 w : World) (sb : Nat) (k : Int) (w' : World) : Prop where
  bel : Below w0.heap.size w0 w'
  sz : w.heap.size ≤ w'.heap.size
  bes : ∀ j, j < w.heap.size → j ≠ sb → w'.heap[j]? = w.heap[j]?
  lin : w'.cell? ⟨sb, 1, none⟩ = some (.int .i64 k)
section
variable {w0 w w' : World} {sb : Nat} {A : Option Addr} {c : Nat} {xs t r : List Int} {k : Int}
theorem errW_same (h : In w0 w sb A c xs k) (hb : Below w.heap.size w w') : ErrW w0 w sb k w' :=
  ⟨below_step h.bel hb, hb.size, fun j hj _ => hb.block j hj, (h.step hb).s1⟩
theorem errW_left (h : In w0 w sb A c xs k) (hb : Below (left sb A c xs r w).heap.size (left sb A c xs r w) w') : ErrW w0 w sb k w' := by
  have hl := left_size sb A c xs r w
  refine ⟨below_step (below_set h.bel h.ge) hb, by have := hb.size; omega, fun j hj hn => ?_, ?_⟩
  · rw [hb.block j (by omega)]
    exact Below.heap_setCell _ _ _ _ hn
  · exact (hb.cell (p := ⟨sb, 1, none⟩) (by have := h.lt; show sb < _; omega)).trans (blk_cell (blk_put h.blk 0 _ rfl) 1)
theorem header_err (h : In w0 w sb A c xs k) (hx : headP xs = none) :
    Calls Tryd.prog 51 #[.pointer (some ⟨sb, 0, none⟩)] w fun e w' => e = .returned (.tuple #[.agg #[.int .i64 0, .int .i64 0, .slice none 0 0], .iface 73 (.int .i64 200)]) ∧ ErrW w0 w sb k w' := by
  cases hn : nextP xs 72 14 with
  | none => exact (header_no sb A c xs w h.here h.s0 hn).mono fun e w' ⟨h1, h2⟩ => ⟨h1, errW_same h h2⟩
  | some tr =>
    obtain ⟨t, r⟩ := tr
    simp only [headP, hn, Option.bind_some] at hx
    split at hx
    · cases hx
    · next hc =>
      by_cases hb : (headD t).2 = true
      · have hz : fieldP t 9 6 = 0 := Classical.byContradiction fun hne => hc ⟨hb, hne⟩
        exact (header_zero w0 w sb A c xs t r k (headD t).1 _ (headD t).2 h hn rfl rfl hb hz).mono fun e w' ⟨h1, h2⟩ => ⟨h1, errW_left h h2⟩
      · exact (header_out w0 w sb A c xs t r k (headD t).1 _ (headD t).2 h hn rfl rfl (Bool.eq_false_iff.2 hb)).mono fun e w' ⟨h1, h2⟩ => ⟨h1, errW_left h h2⟩
theorem header_suc {d n : Int} (h : In w0 w sb A c xs k) (hx : headP xs = some ((d, n), r)) :
    (eol xs < xs.length ∧ r = xs.drop (eol xs + 1)) ∧ Calls Tryd.prog 51 #[.pointer (some ⟨sb, 0, none⟩)] w fun e w' => e = .returned (.tuple #[.agg #[.int .i64 d, .int .i64 n, .slice none 0 0], .nilIface]) ∧ Below (left sb A c xs r w).heap.size (left sb A c xs r w) w' := by
  cases hn : nextP xs 72 14 with
  | none => simp [headP, hn] at hx
  | some tr =>
    obtain ⟨t, r'⟩ := tr
    simp only [headP, hn, Option.bind_some] at hx
    split at hx
    · next hc =>
      simp only [Option.some.injEq, Prod.mk.injEq] at hx
      obtain ⟨⟨rfl, rfl⟩, rfl⟩ := hx
      obtain ⟨he, -, hr, -⟩ := nextP_some hn
      exact ⟨⟨he, hr⟩, header_ok w0 w sb A c xs t r' k _ _ (headD t).2 h hn rfl rfl hc.1 hc.2⟩
    · cases hx
theorem detail_no (h : In w0 w sb A c xs k) (hx : nextP xs 68 23 = none) :
    Calls Tryd.prog 52 #[.pointer (some ⟨sb, 0, none⟩)] w fun e w' => e = .returned (.tuple #[.agg #[.int .i64 0, .int .i64 0], .iface 73 (.int .i64 200)]) ∧ Below w.heap.size w w' := by
  have HN : Aside0 (∀ W, Below w.heap.size w W → Calls Tryd.prog 64 #[.pointer (some ⟨sb, 0, none⟩), .int .u8 68, .int .i64 23] W fun e w' => e = .returned (.tuple #[.string ⟨#[]⟩, .iface 73 (.int .i64 200)]) ∧ Drawn0 W w') :=
    ⟨fun W hb => next_no sb A c xs 68 23 W (h.step hb).here (h.step hb).s0 (by omega) hx⟩
  clear h hx
  go_enter Tryd.func52, Tryd.ntmps52
  go_wp2_with (first | (go_at_call 64; (with_reducible refine (HN.out _ ?_).mono ?_); (repeat (first | exact Below.refl _ _ | apply pw_below_drewN | apply below_alloc)); rintro e w' ⟨rfl, ⟨nd, rfl⟩⟩))
  exact bodyPost_ret (v := .tuple #[.agg #[.int .i64 0, .int .i64 0], .iface 73 (.int .i64 200)]) (by simp [results, Tryd.results52, go_sem]) rfl ⟨rfl, by repeat (first | exact Below.refl _ _ | apply pw_below_drewN | apply below_alloc | refine below_set ?_ (Nat.le_refl _))⟩
theorem detail_err {q : Int} (h : In w0 w sb A c xs k) (hx : detP xs k = .error q) :
    Calls Tryd.prog 52 #[.pointer (some ⟨sb, 0, none⟩)] w fun e w' => e = .returned (.tuple #[.agg #[.int .i64 0, .int .i64 0], .iface 73 (.int .i64 q)]) ∧ ErrW w0 w sb k w' := by
  unfold detP at hx
  cases hn : nextP xs 68 23 with
  | none =>
    simp only [hn, Except.error.injEq] at hx
    subst hx
    exact (detail_no h hn).mono fun e w' ⟨h1, h2⟩ => ⟨h1, errW_same h h2⟩
  | some tr =>
    obtain ⟨t, r⟩ := tr
    simp only [hn] at hx
    split at hx
    · next hz =>
      simp only [Except.error.injEq] at hx
      subst hx
      by_cases hl : fieldP t 5 6 = 0
      · exact (detail_zero w0 w sb A c xs t r k _ _ _ _ h hn rfl rfl rfl rfl hl).mono fun e w' ⟨h1, h2⟩ => ⟨h1, errW_left h h2⟩
      · exact (detail_zero2 w0 w sb A c xs t r k _ _ _ _ h hn rfl rfl rfl rfl hl (hz.resolve_left hl)).mono fun e w' ⟨h1, h2⟩ => ⟨h1, errW_left h h2⟩
    · next hz =>
      simp only [not_or] at hz
      split at hx
      · next hv =>
        simp only [Except.error.injEq] at hx
        subst hx
        exact (detail_digit w0 w sb A c xs t r k _ _ _ _ h hn rfl rfl rfl rfl hz.1 hz.2 hv).mono fun e w' ⟨h1, h2⟩ => ⟨h1, errW_left h h2⟩
      · next hv =>
        split at hx
        · next hp =>
          simp only [Except.error.injEq] at hx
          subst hx
          exact (detail_order w0 w sb A c xs t r k _ _ _ _ h hn rfl rfl rfl rfl hz.1 hz.2 (Bool.not_eq_false _ ▸ hv) hp).mono fun e w' ⟨h1, h2⟩ => ⟨h1, errW_left h h2⟩
        · cases hx
theorem detail_suc {x : S50} (h : In w0 w sb A c xs k) (hx : detP xs k = .ok (x, r)) :
    (eol xs < xs.length ∧ r = xs.drop (eol xs + 1)) ∧ Calls Tryd.prog 52 #[.pointer (some ⟨sb, 0, none⟩)] w fun e w' => e = .returned (.tuple #[.agg #[.int .i64 x.f0, .int .i64 x.f1], .nilIface]) ∧ Below (left sb A c xs r w).heap.size (left sb A c xs r w) w' := by
  unfold detP at hx
  cases hn : nextP xs 68 23 with
  | none => simp [hn] at hx
  | some tr =>
    obtain ⟨t, r'⟩ := tr
    simp only [hn] at hx
    split at hx
    · cases hx
    · next hz =>
      simp only [not_or] at hz
      split at hx
      · cases hx
      · next hv =>
        split at hx
        · cases hx
        · next hp =>
          simp only [Except.ok.injEq, Prod.mk.injEq] at hx
          obtain ⟨rfl, rfl⟩ := hx
          obtain ⟨he, -, hr, -⟩ := nextP_some hn
          exact ⟨⟨he, hr⟩, detail_ok w0 w sb A c xs t r' k _ _ _ _ h hn rfl rfl rfl rfl hz.1 hz.2 (by simpa using hv) (Classical.not_not.1 hp).symm⟩
theorem trailer_err {q : Int} {l : List S50} {Ai : Option Addr} {ci : Nat} (h : In w0 w sb A c xs k) (hI : ∀ r, Kd.C k50 (left sb A c xs r w) Ai l.length l) (hci : l.length ≤ ci) (hil : l.length ≤ 100000) (hx : trlP xs l = .error q) :
    Calls Tryd.prog 53 #[.pointer (some ⟨sb, 0, none⟩), .slice Ai l.length ci] w fun e w' => e = .returned (.iface 73 (.int .i64 q)) ∧ ErrW w0 w sb k w' := by
  unfold trlP at hx
  cases hn : nextP xs 84 30 with
  | none =>
    simp only [hn, Except.error.injEq] at hx
    subst hx
    refine (trailer_no w0 w sb A c xs k _ h hn).mono ?_
    rintro e w' ⟨rfl, ⟨nd, rfl⟩⟩
    exact ⟨rfl, errW_same h (pw_below_drewN (Below.refl _ _) nd)⟩
  | some tr =>
    obtain ⟨t, r⟩ := tr
    simp only [hn] at hx
    split at hx
    · cases hx
    · next hz =>
      simp only [Except.error.injEq] at hx
      subst hx
      have ht := totals_run l hil
      by_cases e1 : fieldP t 1 4 = l.length
      · by_cases e2 : (totP l).1 = fieldP t 5 16
        · exact (trailer_3 w0 w sb A c xs t r k _ _ _ _ _ Ai ci _ l h hn rfl rfl rfl (hI r) hci hil ht e1 e2 (fun e3 => hz ⟨e1, e2, e3.symm⟩)).mono fun e w' ⟨h1, h2⟩ => ⟨h1, errW_left h h2⟩
        · exact (trailer_2 w0 w sb A c xs t r k _ _ _ _ _ Ai ci _ l h hn rfl rfl rfl (hI r) hci hil ht e1 (Ne.symm e2)).mono fun e w' ⟨h1, h2⟩ => ⟨h1, errW_left h h2⟩
      · exact (trailer_1 w0 w sb A c xs t r k _ _ _ _ _ Ai ci _ l h hn rfl rfl rfl (hI r) hci hil ht e1).mono fun e w' ⟨h1, h2⟩ => ⟨h1, errW_left h h2⟩
theorem trailer_suc {l : List S50} {Ai : Option Addr} {ci : Nat} (h : In w0 w sb A c xs k) (hI : ∀ r, Kd.C k50 (left sb A c xs r w) Ai l.length l) (hci : l.length ≤ ci) (hil : l.length ≤ 100000) (hx : trlP xs l = .ok r) :
    (eol xs < xs.length ∧ r = xs.drop (eol xs + 1)) ∧ Calls Tryd.prog 53 #[.pointer (some ⟨sb, 0, none⟩), .slice Ai l.length ci] w fun e w' => e = .returned .nilIface ∧ Below (left sb A c xs r w).heap.size (left sb A c xs r w) w' := by
  unfold trlP at hx
  cases hn : nextP xs 84 30 with
  | none => simp [hn] at hx
  | some tr =>
    obtain ⟨t, r'⟩ := tr
    simp only [hn] at hx
    split at hx
    · next hz =>
      simp only [Except.ok.injEq] at hx
      subst hx
      obtain ⟨he, -, hr, -⟩ := nextP_some hn
      exact ⟨⟨he, hr⟩, trailer_ok w0 w sb A c xs t r' k _ _ _ _ _ Ai ci _ l h hn rfl rfl rfl (hI r') hci hil (totals_run l hil) hz.1 hz.2.1 hz.2.2⟩
    · cases hx
end
end Go.Proofs.YtkjdmbbaacjpmaaDoor.Reader
end
section
namespace Go.Proofs.YtkjdmbbaacjpmaaDoor.Reader
open Go.RowKit Go.Proofs.YtkjdmbbaacjpmaaDoor.Scan Go.Proofs.YtkjdmbbaacjpmaaDoorW.PrintWords Go.Proofs.YtkjdmbbaacjpmaaDoorW.PrintLast Go.Proofs.YtkjdmbbaacjpmaaDoor.R
set_option linter.unusedVariables false
set_option linter.unusedSimpArgs false
def readPost (w : World) (res : Except (Int × Int) ((Int × Int) × List S50)) (e : Ending) (w' : World) : Prop :=
  match res with
  | .ok ((d, n), l) => ∃ v, e = .returned (.tuple #[.agg #[.int .i64 d, .int .i64 n, v], .nilIface]) ∧ Kd.R k50 50 w' w.heap.size (fun _ => True) v l ∧ Below w.heap.size w w'
  | .error (c, k) => ∃ eb, e = .returned (.tuple #[.agg #[.int .i64 0, .int .i64 0, .slice none 0 0], .iface 72 (.pointer (some ⟨eb, 0, none⟩))]) ∧ w'.heap[eb]? = some (.cells #[.int .i64 k, .iface 73 (.int .i64 c)] 78 (0, 0)) ∧ w.heap.size ≤ eb ∧ Below w.heap.size w w'
theorem readPost_err {w w' : World} {e : Ending} {c k : Int} (eb : Nat) (he : e = .returned (.tuple #[.agg #[.int .i64 0, .int .i64 0, .slice none 0 0], .iface 72 (.pointer (some ⟨eb, 0, none⟩))])) (hb : w'.heap[eb]? = some (.cells #[.int .i64 k, .iface 73 (.int .i64 c)] 78 (0, 0))) (hl : w.heap.size ≤ eb) (h : Below w.heap.size w w') : readPost w (.error (c, k)) e w' := ⟨eb, he, hb, hl, h⟩
theorem readPost_ok {w w' : World} {e : Ending} {d n : Int} {l : List S50} (v : Value) (he : e = .returned (.tuple #[.agg #[.int .i64 d, .int .i64 n, v], .nilIface])) (hR : Kd.R k50 50 w' w.heap.size (fun _ => True) v l) (h : Below w.heap.size w w') : readPost w (.ok ((d, n), l)) e w' := ⟨v, he, hR, h⟩
theorem blk_new' (w : World) (o : Obj) (g : Nat) (hg : g = w.heap.size) : (w.alloc o).heap[g]? = some o := hg ▸ blk_new w o
def begun (w : World) (A : Option Addr) (n c : Nat) : World := (w.alloc (.cells #[.int .i64 0, .int .i64 0, .slice none 0 0] 32)).alloc (.cells #[.slice A n c, .int .i64 0] 93)
theorem begun_in {w : World} {A : Option Addr} {c : Nat} {xs : List Int} (h : At w A c xs) (HT : C.Tab w) : In w (begun w A xs.length c) (w.heap.size + 1) A c xs 0 :=
  ⟨h, HT, below_alloc (below_alloc (Below.refl _ _) _) _, Nat.le_succ _, by
    have := blk_new (w.alloc (.cells #[.int .i64 0, .int .i64 0, .slice none 0 0] 32)) (.cells #[.slice A xs.length c, .int .i64 0] 93)
    simpa [begun] using this⟩
theorem begun_res (w : World) (A : Option Addr) (n c : Nat) : (begun w A n c).heap[w.heap.size]? = some (.cells #[.int .i64 0, .int .i64 0, .slice none 0 0] 32 (0, 0)) := blk_alloc (blk_new _ _) _
theorem begun_size (w : World) (A : Option Addr) (n c : Nat) : (begun w A n c).heap.size = w.heap.size + 1 + 1 := by simp [begun]
set_option maxRecDepth 100000 in
theorem read_head (A : Option Addr) (c : Nat) (xs : List Int) (w : World) (h : At w A c xs) (HT : C.Tab w) (hx : headP xs = none) :
    Calls Tryd.prog 39 #[.slice A xs.length c] w (readPost w (.error (200, 0))) := by
  have HE := Lib.hid (header_err (begun_in h HT) hx)
  have hres := begun_res w A xs.length c
  have HR := Aside0.mk hres
  have HZ := Aside0.mk (begun_size w A xs.length c)
  clear h hx hres
  unfold begun at *
  generalize xs.length = n at *
  go_enter Tryd.func39, Tryd.ntmps39
  go_wp2_with (first | (refine HE.out.mono ?_; rintro e w' ⟨rfl, hw⟩; have HW := Aside0.mk hw; clear hw; have BK := Aside0.mk ((HW.out.bes w.heap.size (by rw [HZ.out]; omega) (by omega)).trans HR.out); have c0_ : w'.cell? ⟨w.heap.size, 0, none⟩ = some (.int .i64 0) := blk_cell BK.out 0; have c1_ : w'.cell? ⟨w.heap.size, 1, none⟩ = some (.int .i64 0) := blk_cell BK.out 1; have c2_ : w'.cell? ⟨w.heap.size, 2, none⟩ = some (.slice none 0 0) := blk_cell BK.out 2; have z0_ := blk_frozen BK.out 0; have z1_ := blk_frozen BK.out 1; have z2_ := blk_frozen BK.out 2; have lt_ : w.heap.size < w'.heap.size := blk_lt BK.out; have ne_ : ¬ w.heap.size = w'.heap.size := Nat.ne_of_lt lt_))
  exact bodyPost_ret (v := .tuple #[.agg #[.int .i64 0, .int .i64 0, .slice none 0 0], .iface 72 (.pointer (some ⟨w'.heap.size + 1, 0, none⟩))]) (by simp [results, Tryd.results39, go_sem, c0_, c1_, c2_, lt_, ne_]) rfl
    (readPost_err (w'.heap.size + 1) rfl (blk_new' _ _ _ (by simp [setCell_size])) (by omega) (by repeat (first | exact HW.out.bel | apply below_alloc | refine below_set ?_ (Nat.le_refl _))))
theorem In.left {w0 w w' : World} {sb : Nat} {A : Option Addr} {c : Nat} {xs r : List Int} {k : Int} (h : In w0 w sb A c xs k) (he : eol xs < xs.length) (hr : r = xs.drop (eol xs + 1)) (hb : Below (Reader.left sb A c xs r w).heap.size (Reader.left sb A c xs r w) w') :
    In w0 w' sb (cutA A c (eol xs)) (c - (eol xs + 1)) r k := by
  subst hr
  have h1 : In w0 (Reader.left sb A c xs (xs.drop (eol xs + 1)) w) sb (cutA A c (eol xs)) (c - (eol xs + 1)) (xs.drop (eol xs + 1)) k := ⟨h.at_.left he, h.tab, below_set h.bel h.ge, h.ge, blk_put h.blk 0 _ rfl⟩
  exact h1.step hb
theorem start_LS {w w' : World} {rb sb : Nat} {A : Option Addr} {c : Nat} {r : List Int} (d n : Int) (h : In w w' sb A c r 0) (hr : w'.heap[rb]? = some (.cells #[.int .i64 0, .int .i64 0, .slice none 0 0] 32 (0, 0))) (hne : rb ≠ sb) (hge : w.heap.size ≤ rb) :
    LS w ((w'.setCell ⟨sb, 1, none⟩ (.int .i64 1)).alloc (.cells #[.int .i64 d, .int .i64 n, .slice none 0 0] 32)) rb sb w'.heap.size A c r 1 d n (.slice none 0 0) [] := by
  have hz := setCell_size w' ⟨sb, 1, none⟩ (.int .i64 1)
  have h1 : In w (w'.setCell ⟨sb, 1, none⟩ (.int .i64 1)) sb A c r 1 := ⟨h.at_, h.tab, below_set h.bel h.ge, h.ge, blk_put h.blk 1 _ rfl⟩
  exact ⟨h1.step (below_alloc (Below.refl _ _) _), blk_alloc (blk_far hr hne _) _, blk_new' _ _ _ hz.symm, Kd.R_nil _ _ _ _ _, hge, h.bel.size, hne, Nat.ne_of_gt h.lt, Nat.ne_of_lt (blk_lt hr)⟩
theorem At.first {w : World} {A : Option Addr} {c : Nat} {x : Int} {t : List Int} (h : At w A c (x :: t)) : ∃ b o, A = some ⟨b, o, none⟩ ∧ w.cell? ⟨b, o, none⟩ = some (.int .u8 x) := by
  rcases h.adr with ⟨rfl, rfl⟩ | ⟨b, o, rfl⟩
  · have := h.cap; simp at this
  · obtain ⟨_, _, hr⟩ := Kd.reads_of_C (enc := Value.int .u8) (d := (0 : Int)) (h1 := fun _ => rfl) h.C
    obtain ⟨ad, had, hc⟩ := hr (by simp)
    obtain rfl := Option.some.inj had
    have hci := hc 0 (by simp)
    exact ⟨b, o, rfl, by simpa [Addr.add] using hci⟩
theorem LS.fin {w0 W : World} {rb sb bb : Nat} {A : Option Addr} {c : Nat} {xs : List Int} {k d n : Int} {v : Value} {l : List S50} (h : LS w0 W rb sb bb A c xs k d n v l) (a b u : Value) :
    Kd.R k50 50 (((W.setCell ⟨rb, 0, none⟩ a).setCell ⟨rb, 1, none⟩ b).setCell ⟨rb, 2, none⟩ u) w0.heap.size (fun _ => True) v l ∧ Below w0.heap.size w0 (((W.setCell ⟨rb, 0, none⟩ a).setCell ⟨rb, 1, none⟩ b).setCell ⟨rb, 2, none⟩ u) := by
  have b1 := blk_set h.res 0 a
  have b2 := blk_set b1 1 b
  have r1 := Kd.R_set h.row h.res (by decide) 0 a
  have r2 := Kd.R_set r1 b1 (by decide) 1 b
  exact ⟨Kd.R_set r2 b2 (by decide) 2 u, below_set (below_set (below_set h.inn.bel h.rge) h.rge) h.rge⟩
theorem errW_fin {w0 w W : World} {sb rb : Nat} {k : Int} (h : ErrW w0 w sb k W) (hr : w0.heap.size ≤ rb) (a b u : Value) : Below w0.heap.size w0 (((W.setCell ⟨rb, 0, none⟩ a).setCell ⟨rb, 1, none⟩ b).setCell ⟨rb, 2, none⟩ u) := below_set (below_set (below_set h.bel hr) hr) hr
set_option maxRecDepth 100000 in
set_option maxHeartbeats 4000000 in
theorem read_body (A : Option Addr) (c : Nat) (xs r : List Int) (d n : Int) (RES : Except (Int × Int) (List S50)) (w : World) (h : At w A c xs) (HT : C.Tab w) (hx : headP xs = some ((d, n), r)) (hR : loopP 10001 r 1 [] = RES) :
    Calls Tryd.prog 39 #[.slice A xs.length c] w (readPost w (RES.map fun l => ((d, n), l))) := by
  obtain ⟨⟨hel, her⟩, hS⟩ := header_suc (begun_in h HT) hx
  have HE := Lib.hid hS
  have HIN := Lib.hid (begun_in h HT)
  have HEL := Lib.hid hel
  have HER := Lib.hid her
  have HRS := Lib.hid hR
  have HRB := Lib.hid (begun_res w A xs.length c)
  have HZ := Lib.hid (begun_size w A xs.length c)
  clear h hx hS hel her hR
  have hlen := Lib.hid (rfl : xs.length = xs.length)
  go_enter Tryd.func39, Tryd.ntmps39
  go_wp2_with (first | (refine HE.out.mono ?_; rintro e w' ⟨rfl, hb⟩; have HI := Lib.hid (In.left HIN.out HEL.out HER.out hb); have HW := Lib.hid hb; clear hb; have s1_ := HI.out.s1; have z1_ := blk_frozen HI.out.blk 1; have lt_ : w.heap.size + 1 < w'.heap.size := HI.out.lt; have ne_ : ¬ w.heap.size + 1 = w'.heap.size := Nat.ne_of_lt lt_))
  have hrb : w'.heap[w.heap.size]? = some (.cells #[.int .i64 0, .int .i64 0, .slice none 0 0] 32 (0, 0)) := blk_below (blk_far HRB.out (Nat.ne_of_lt (Nat.lt_succ_self _)) _) HW.out
  have HL0 := Lib.hid (start_LS d n HI.out hrb (Nat.ne_of_lt (Nat.lt_succ_self _)) (Nat.le_refl _))
  clear hrb
  go_loopg [7, 8] 10001 (fun kq v7 v8 W => ∃ (A1 : Option Addr) (c1 : Nat) (ys : List Int) (k : Nat) (v : Value) (l : List S50), Aside0 (LS w W w.heap.size (w.heap.size + 1) w'.heap.size A1 c1 ys k d n v l) ∧ Aside0 (loopP kq ys k l = RES) ∧ Aside0 (kq + k = 10002 ∧ 1 ≤ k ∧ k ≤ 10000 ∧ l.length + 1 = k))
  case atStart => exact ⟨_, _, r, 1, _, [], ⟨HL0.out⟩, ⟨HRS.out⟩, ⟨by omega, by omega, by omega, rfl⟩⟩
  case round =>
    obtain ⟨A1, c1, ys, k, v, l, HL, HP, HN⟩ := hrel
    clear HL0 HI HW s1_ z1_ HE HIN HEL HER HRS HRB HZ hlen
    have hk1 : 1 ≤ (k : Int) := by have := HN.out; omega
    have hk2 : (k : Int) ≤ 10000 := by have := HN.out; omega
    have s1_ : wr.cell? ⟨w.heap.size + 1, 1, none⟩ = some (.int .i64 k) := HL.out.inn.s1
    have s0_ : wr.cell? ⟨w.heap.size + 1, 0, none⟩ = some (.slice A1 ys.length c1) := HL.out.inn.s0
    go_upto_region 7 with (fail)
    go_cut [63] (fun v63 W => v63 = .bool (brk ys k) ∧ Aside0 (LS w W w.heap.size (w.heap.size + 1) w'.heap.size A1 c1 ys k d n v l))
    case first =>
      by_cases h9 : 9999 < (k : Int)
      · have b1 : decide (9999 < (k : Int)) = true := decide_eq_true h9
        have hbr : brk ys k = true := by simp [brk, b1]
        have HBR := Lib.hid hbr
        clear hbr h9
        go_wp2
        go_meet
        case rel => exact ⟨by rw [HBR.out], HL⟩
      · have b1 : decide (9999 < (k : Int)) = false := decide_eq_false h9
        by_cases h1 : 1 < (k : Int)
        · have b2 : decide (1 < (k : Int)) = true := decide_eq_true h1
          cases ys with
          | nil =>
            have HBR := Lib.hid (show brk [] k = false by simp [brk, b1])
            simp only [List.length_nil] at s0_
            clear h9 h1
            go_wp2
            go_meet
            case rel => exact ⟨by rw [HBR.out], HL⟩
          | cons x0 ys =>
            obtain ⟨fb, fo, rfl, hx0⟩ := HL.out.inn.here.first
            have hl0 : 0 < (x0 :: ys).length := by simp
            have b3 : decide (0 < ((x0 :: ys).length : Int)) = true := decide_eq_true (by omega)
            have hb4 : brk (x0 :: ys) k = (x0 == 84) := by simp [brk, b1, b2]
            have p0 : (0 < (x0 :: ys).length) = True := eq_true hl0
            by_cases h84 : x0 = 84
            · have b5 : (x0 == 84) = true := by simp [h84]
              rw [b5] at hb4
              have HBR := Lib.hid hb4
              clear hb4 h9 h1 h84
              generalize (x0 :: ys).length = yl at *
              go_wp2
              go_meet
              case rel => exact ⟨by rw [HBR.out], HL⟩
            · have b5 : (x0 == 84) = false := by simp [h84]
              rw [b5] at hb4
              have HBR := Lib.hid hb4
              clear hb4 h9 h1 h84
              generalize (x0 :: ys).length = yl at *
              go_wp2
              go_meet
              case rel => exact ⟨by rw [HBR.out], HL⟩
        · have b2 : decide (1 < (k : Int)) = false := decide_eq_false h1
          have HBR := Lib.hid (show brk ys k = false by simp [brk, b1, b2])
          clear h9 h1
          go_wp2
          go_meet
          case rel => exact ⟨by rw [HBR.out], HL⟩
    case rest =>
      obtain ⟨rfl, HL⟩ := hcut
      cases gk with
      | zero => have := HN.out; omega
      | succ gk =>
        have H := HP.out
        clear HP
        simp only [loopP] at H
        cases hb : brk ys k with
        | true =>
          rw [hb, if_pos rfl] at H
          obtain ⟨Ai, ci, rfl, hci, hC⟩ := Kd.R_reads HL.out.row
          have c2_ : wc.cell? ⟨w'.heap.size, 2, none⟩ = some (.slice Ai l.length ci) := blk_cell HL.out.bat 2
          have hI : ∀ r, Kd.C k50 (Reader.left (w.heap.size + 1) A1 c1 ys r wc) Ai l.length l := fun r => (Kd.R_reads' (Kd.R_set HL.out.row HL.out.inn.blk (by decide) 0 _)).2.2
          have hil : l.length ≤ 100000 := by have := HN.out; omega
          cases ht : trlP ys l with
          | error q =>
            simp only [endP, ht] at H
            subst H
            have HE := Lib.hid (trailer_err HL.out.inn hI hci hil ht)
            clear hI ht hC hb hil hci
            generalize l.length = ln at *
            go_wp2_with (first | (refine HE.out.mono ?_; rintro e we ⟨rfl, hw⟩; have HW := Aside0.mk hw; clear hw; have BK := Aside0.mk ((HW.out.bes w.heap.size (blk_lt HL.out.res) (by omega)).trans HL.out.res); have g0_ : we.cell? ⟨w.heap.size, 0, none⟩ = some (.int .i64 0) := blk_cell BK.out 0; have g1_ : we.cell? ⟨w.heap.size, 1, none⟩ = some (.int .i64 0) := blk_cell BK.out 1; have g2_ : we.cell? ⟨w.heap.size, 2, none⟩ = some (.slice none 0 0) := blk_cell BK.out 2; have z0_ := blk_frozen BK.out 0; have z1_ := blk_frozen BK.out 1; have z2_ := blk_frozen BK.out 2; have lt2_ : w.heap.size < we.heap.size := blk_lt BK.out; have ne2_ : ¬ w.heap.size = we.heap.size := Nat.ne_of_lt lt2_; have l0_ := HW.out.lin; have lt3_ : w.heap.size + 1 < we.heap.size := World.block_lt_of_cell? we _ l0_; have ne3_ : ¬ w.heap.size + 1 = we.heap.size := Nat.ne_of_lt lt3_))
            go_region
            go_wp2
            exact bodyPost_ret (v := .tuple #[.agg #[.int .i64 0, .int .i64 0, .slice none 0 0], .iface 72 (.pointer (some ⟨we.heap.size, 0, none⟩))]) (by simp [results, Tryd.results39, go_sem, g0_, g1_, g2_, lt2_, ne2_]) rfl
              (readPost_err we.heap.size rfl (blk_drew (blk_new' _ _ _ (by simp [setCell_size]))) (by omega) (Below.drew (below_alloc (errW_fin HW.out (Nat.le_refl _) _ _ _) _)))
          | ok r2 =>
            simp only [endP, ht] at H
            obtain ⟨⟨he, hr⟩, hS⟩ := trailer_suc HL.out.inn hI hci hil ht
            have HE := Lib.hid hS
            have HEL := Lib.hid he
            have HER := Lib.hid hr
            clear hI ht hC hb hil hci hS he hr
            by_cases hr2 : r2 = []
            · subst hr2
              rw [if_pos rfl] at H
              subst H
              generalize l.length = ln at *
              go_wp2_with (first | (refine HE.out.mono ?_; rintro e we ⟨rfl, hw⟩; have HW := Lib.hid (HL.out.taken HEL.out HER.out hw); clear hw; have BK := Aside0.mk HW.out.res; have g0_ : we.cell? ⟨w.heap.size, 0, none⟩ = some (.int .i64 0) := blk_cell BK.out 0; have g1_ : we.cell? ⟨w.heap.size, 1, none⟩ = some (.int .i64 0) := blk_cell BK.out 1; have g2_ : we.cell? ⟨w.heap.size, 2, none⟩ = some (.slice none 0 0) := blk_cell BK.out 2; have z0_ := blk_frozen BK.out 0; have z1_ := blk_frozen BK.out 1; have z2_ := blk_frozen BK.out 2; have lt2_ : w.heap.size < we.heap.size := blk_lt BK.out; have ne2_ : ¬ w.heap.size = we.heap.size := Nat.ne_of_lt lt2_; have l0_ := HW.out.inn.s0; have lt3_ : w.heap.size + 1 < we.heap.size := HW.out.inn.lt; have k0_ := blk_cell HW.out.bat 0; have k1_ := blk_cell HW.out.bat 1; have k2_ := blk_cell HW.out.bat 2; simp only [List.getElem?_toArray, List.getElem?_cons_zero, List.getElem?_cons_succ] at k0_ k1_ k2_; simp only [List.length_nil] at l0_))
              exact bodyPost_ret (v := .tuple #[.agg #[.int .i64 d, .int .i64 n, .slice Ai ln ci], .nilIface]) (by simp [results, Tryd.results39, go_sem, g0_, g1_, g2_, lt2_, ne2_]) rfl
                (readPost_ok _ rfl (HW.out.fin _ _ _).1 (HW.out.fin _ _ _).2)
            · rw [if_neg hr2] at H
              subst H
              have hr3 : 0 < r2.length := List.length_pos_iff.2 hr2
              have b3 : decide (0 < (r2.length : Int)) = true := decide_eq_true (by omega)
              clear hr2
              generalize l.length = ln at *
              go_wp2_with (first | (refine HE.out.mono ?_; rintro e we ⟨rfl, hw⟩; have HW := Lib.hid (HL.out.taken HEL.out HER.out hw); clear hw; have BK := Aside0.mk HW.out.res; have g0_ : we.cell? ⟨w.heap.size, 0, none⟩ = some (.int .i64 0) := blk_cell BK.out 0; have g1_ : we.cell? ⟨w.heap.size, 1, none⟩ = some (.int .i64 0) := blk_cell BK.out 1; have g2_ : we.cell? ⟨w.heap.size, 2, none⟩ = some (.slice none 0 0) := blk_cell BK.out 2; have z0_ := blk_frozen BK.out 0; have z1_ := blk_frozen BK.out 1; have z2_ := blk_frozen BK.out 2; have lt2_ : w.heap.size < we.heap.size := blk_lt BK.out; have ne2_ : ¬ w.heap.size = we.heap.size := Nat.ne_of_lt lt2_; have l0_ := HW.out.inn.s0; have l1_ := HW.out.inn.s1; have lt3_ : w.heap.size + 1 < we.heap.size := HW.out.inn.lt; have ne3_ : ¬ w.heap.size + 1 = we.heap.size := Nat.ne_of_lt lt3_))
              go_region
              go_wp2
              exact bodyPost_ret (v := .tuple #[.agg #[.int .i64 0, .int .i64 0, .slice none 0 0], .iface 72 (.pointer (some ⟨we.heap.size, 0, none⟩))]) (by simp [results, Tryd.results39, go_sem, g0_, g1_, g2_, lt2_, ne2_]) rfl
                (readPost_err we.heap.size rfl (blk_drew (blk_new' _ _ _ (by simp [setCell_size]))) (by omega) (Below.drew (below_alloc (HW.out.fin _ _ _).2 _)))
        | false =>
          rw [hb, if_neg (by decide)] at H
          cases ht : detP ys k with
          | error q =>
            simp only [ht] at H
            subst H
            have HE := Lib.hid (detail_err HL.out.inn ht)
            clear ht hb
            go_wp2_with (first | (refine HE.out.mono ?_; rintro e we ⟨rfl, hw⟩; have HW := Aside0.mk hw; clear hw; have BK := Aside0.mk ((HW.out.bes w.heap.size (blk_lt HL.out.res) (by omega)).trans HL.out.res); have g0_ : we.cell? ⟨w.heap.size, 0, none⟩ = some (.int .i64 0) := blk_cell BK.out 0; have g1_ : we.cell? ⟨w.heap.size, 1, none⟩ = some (.int .i64 0) := blk_cell BK.out 1; have g2_ : we.cell? ⟨w.heap.size, 2, none⟩ = some (.slice none 0 0) := blk_cell BK.out 2; have z0_ := blk_frozen BK.out 0; have z1_ := blk_frozen BK.out 1; have z2_ := blk_frozen BK.out 2; have lt2_ : w.heap.size < we.heap.size := blk_lt BK.out; have ne2_ : ¬ w.heap.size = we.heap.size := Nat.ne_of_lt lt2_; have l0_ := HW.out.lin; have lt3_ : w.heap.size + 1 < we.heap.size := World.block_lt_of_cell? we _ l0_; have ne3_ : ¬ w.heap.size + 1 = we.heap.size := Nat.ne_of_lt lt3_))
            go_region
            go_wp2
            exact bodyPost_ret (v := .tuple #[.agg #[.int .i64 0, .int .i64 0, .slice none 0 0], .iface 72 (.pointer (some ⟨we.heap.size + 1, 0, none⟩))]) (by simp [results, Tryd.results39, go_sem, g0_, g1_, g2_, lt2_, ne2_]) rfl
              (readPost_err (we.heap.size + 1) rfl (blk_drew (blk_new' _ _ _ (by simp [setCell_size]))) (by omega) (Below.drew (below_alloc (below_alloc (errW_fin HW.out (Nat.le_refl _) _ _ _) _) _)))
          | ok xr =>
            obtain ⟨x, r2⟩ := xr
            simp only [ht] at H
            obtain ⟨⟨he, hr⟩, hS⟩ := detail_suc HL.out.inn ht
            have HE := Lib.hid hS
            have HEL := Lib.hid he
            have HER := Lib.hid hr
            have HQ := Lib.hid H
            clear ht hS he hr H
            have hil : l.length ≤ 100000 := by have := HN.out; omega
            have HK9 := Lib.hid (show (k : Int) ≤ 9999 by
              simp only [brk, Bool.or_eq_false_iff, decide_eq_false_iff_not] at hb
              omega)
            clear hb
            go_wp2_with (first
              | (refine HE.out.mono ?_; rintro e we ⟨rfl, hw⟩; have HW := Lib.hid (HL.out.taken HEL.out HER.out hw); clear hw; have k2_ : we.cell? ⟨w'.heap.size, 2, none⟩ = some v := blk_cell HW.out.bat 2; have lt4_ : w'.heap.size < we.heap.size := blk_lt HW.out.bat; have ne4_ : ¬ w'.heap.size = we.heap.size := Nat.ne_of_lt lt4_)
              | (at_builtin; have HA := Lib.hid (HW.out.alloc (.cells #[.int .i64 x.f0, .int .i64 x.f1] 50)); refine Kd.R_append k50 (w0 := w) w.heap.size rfl (.tmp 81) (.tmp 83) 30 50 (.agg #[(.int .i64 0), (.int .i64 0)]) 16 rfl Tryd.underlying30 info50 rfl (by decide) (by omega) v l x [.int .i64 x.f0, .int .i64 x.f1] (fun _ => True) (fun _ => False) rfl (by first | (go_simp; done) | (go_simp; rfl)) (k50_mkM _ _ _ x) (fun _ hk => hk.elim) (fun _ _ => trivial) HA.out.row HA.out.inn.bel HA.out.inn.bel.size (by omega) ?_; intro v1 w1 hR hB hg hat; obtain ⟨l1, hl1⟩ : ∃ l1, l1 = l ++ [x] := ⟨_, rfl⟩; rw [← hl1] at hR; have HL1 := Lib.hid hl1; clear hl1; obtain ⟨Av, cv, rfl⟩ := Kd.R_slice hR; have HF := Lib.hid ((HA.out.app hR hB hg).line ((k : Int) + 1)); have e2_ : w1.cell? ⟨w'.heap.size, 2, none⟩ = some v := blk_cell (blk_grown HA.out.bat hg (Kd.R_ne HA.out.row HA.out.bat (by decide))) 2; have f2_ : w1.frozen? ⟨w'.heap.size, 2, none⟩ = false := blk_frozen (blk_grown HA.out.bat hg (Kd.R_ne HA.out.row HA.out.bat (by decide))) 2; have e1_ : w1.cell? ⟨w.heap.size + 1, 1, none⟩ = some (.int .i64 k) := blk_cell (blk_grown HA.out.inn.blk hg (Kd.R_ne HA.out.row HA.out.inn.blk (by decide))) 1; have f1_ : w1.frozen? ⟨w.heap.size + 1, 1, none⟩ = false := blk_frozen (blk_grown HA.out.inn.blk hg (Kd.R_ne HA.out.row HA.out.inn.blk (by decide))) 1; have ne5_ : ¬ w'.heap.size = w.heap.size + 1 := (by omega); clear hR hB hg hat))
            go_roundg gk
            case measure => omega
            case rel => exact ⟨_, _, r2, k + 1, _, l1, ⟨HF.out⟩, ⟨by rw [HL1.out, Int.natCast_add]; exact HQ.out⟩, ⟨by have := HN.out; omega, by omega, by have := HN.out; have := HK9.out; omega, by have := HN.out; rw [HL1.out]; simp; omega⟩⟩
end Go.Proofs.YtkjdmbbaacjpmaaDoor.Reader
end
section
namespace Go.Proofs.YtkjdmbbaacjpmaaDoor.As
open Go.RowKit Go.Extern.Stop Go.Stop Go.Extern
set_option linter.unusedVariables false
set_option linter.unusedSimpArgs false
theorem as_nil (t : Value) (w : World) :
    Calls Tryd.prog 40 #[.nilIface, t] w fun e w' => e = .returned (.bool false) ∧ w' = w := by
  go_enter Tryd.func40, Tryd.ntmps40
  go_wp2
  go_ret
  exact ⟨rfl, rfl⟩
theorem valueOf75 (t : Addr) (w : World) : (ReflectliteValue.unpack (.iface 75 (.pointer (some t)))).run Tryd.prog w
    = .ok (.agg #[.pointer (some ⟨8, 75, none⟩), .pointer (some ⟨w.heap.size, 0, none⟩), .int .u64 150]) (w.alloc (.cells #[.pointer (some t)] 75)) := by kernel_rfl
theorem valueOf76 (t : Addr) (w : World) : (ReflectliteValue.unpack (.iface 76 (.pointer (some t)))).run Tryd.prog w
    = .ok (.agg #[.pointer (some ⟨8, 76, none⟩), .pointer (some ⟨w.heap.size, 0, none⟩), .int .u64 150]) (w.alloc (.cells #[.pointer (some t)] 76)) := by kernel_rfl
theorem valueOf72 (t : Addr) (w : World) : (ReflectliteValue.unpack (.iface 72 (.pointer (some t)))).run Tryd.prog w
    = .ok (.agg #[.pointer (some ⟨8, 72, none⟩), .pointer (some ⟨w.heap.size, 0, none⟩), .int .u64 150]) (w.alloc (.cells #[.pointer (some t)] 72)) := by kernel_rfl
theorem valueOf73 (n : Int) (w : World) : (ReflectliteValue.unpack (.iface 73 (.int .i64 n))).run Tryd.prog w
    = .ok (.agg #[.pointer (some ⟨8, 73, none⟩), .pointer (some ⟨w.heap.size, 0, none⟩), .int .u64 130]) (w.alloc (.cells #[.int .i64 n] 73)) := by kernel_rfl
theorem type75 (a : Addr) (w : World) : (ReflectliteValue.methodAny (ReflectliteValue.valueError "reflectlite.Value.Type" 0) (fun t _ _ _ => ReflectliteType.toType t) #[.agg #[.pointer (some ⟨8, 75, none⟩), .pointer (some a), .int .u64 150]]).run Tryd.prog w
    = .ok (.iface 119 (.agg #[.pointer (some ⟨8, 75, none⟩)])) w := by kernel_rfl
theorem type76 (a : Addr) (w : World) : (ReflectliteValue.methodAny (ReflectliteValue.valueError "reflectlite.Value.Type" 0) (fun t _ _ _ => ReflectliteType.toType t) #[.agg #[.pointer (some ⟨8, 76, none⟩), .pointer (some a), .int .u64 150]]).run Tryd.prog w
    = .ok (.iface 119 (.agg #[.pointer (some ⟨8, 76, none⟩)])) w := by kernel_rfl
theorem methodKind (h : Value) (w : World) : (Go.method 294 119 (.agg #[h]) "Kind").run Tryd.prog w = .ok (111, h) w := by kernel_rfl
theorem kindOf75 (w : World) : ((ReflectliteType.abiMethod fun t => (fun a : Nat => Value.int IntKind.u8 (a : Int)) <$> Rtype.kind t) #[.pointer (some ⟨8, 75, none⟩)]).run Tryd.prog w = .ok (.int .u8 22) w := by kernel_rfl
theorem kindOf76 (w : World) : ((ReflectliteType.abiMethod fun t => (fun a : Nat => Value.int IntKind.u8 (a : Int)) <$> Rtype.kind t) #[.pointer (some ⟨8, 76, none⟩)]).run Tryd.prog w = .ok (.int .u8 22) w := by kernel_rfl
theorem kindOf72 (w : World) : ((ReflectliteType.abiMethod fun t => (fun a : Nat => Value.int IntKind.u8 (a : Int)) <$> Rtype.kind t) #[.pointer (some ⟨8, 72, none⟩)]).run Tryd.prog w = .ok (.int .u8 22) w := by kernel_rfl
theorem kindOf73 (w : World) : ((ReflectliteType.abiMethod fun t => (fun a : Nat => Value.int IntKind.u8 (a : Int)) <$> Rtype.kind t) #[.pointer (some ⟨8, 73, none⟩)]).run Tryd.prog w = .ok (.int .u8 2) w := by kernel_rfl
theorem methodElem (h : Value) (w : World) : (Go.method 294 119 (.agg #[h]) "Elem").run Tryd.prog w = .ok (123, .agg #[h]) w := by kernel_rfl
theorem methodImplements (h : Value) (w : World) : (Go.method 294 119 (.agg #[h]) "Implements").run Tryd.prog w = .ok (124, .agg #[h]) w := by kernel_rfl
theorem methodAssignableTo (h : Value) (w : World) : (Go.method 294 119 (.agg #[h]) "AssignableTo").run Tryd.prog w = .ok (121, .agg #[h]) w := by kernel_rfl
theorem elemOf75 (w : World) : (ReflectliteType.method ReflectliteType.elem #[.agg #[.pointer (some ⟨8, 75, none⟩)]]).run Tryd.prog w = .ok (.iface 119 (.agg #[.pointer (some ⟨8, 72, none⟩)])) w := by kernel_rfl
theorem elemOf76 (w : World) : (ReflectliteType.method ReflectliteType.elem #[.agg #[.pointer (some ⟨8, 76, none⟩)]]).run Tryd.prog w = .ok (.iface 119 (.agg #[.pointer (some ⟨8, 73, none⟩)])) w := by kernel_rfl
theorem implements72 (w : World) : (ReflectliteType.relation "Implements" ReflectliteType.implements_ #[.agg #[.pointer (some ⟨8, 72, none⟩)], .iface 119 (.agg #[.pointer (some ⟨8, 69, none⟩)])]).run Tryd.prog w = .ok (.bool true) w := by kernel_rfl
theorem implements73 (w : World) : (ReflectliteType.relation "Implements" ReflectliteType.implements_ #[.agg #[.pointer (some ⟨8, 73, none⟩)], .iface 119 (.agg #[.pointer (some ⟨8, 69, none⟩)])]).run Tryd.prog w = .ok (.bool true) w := by kernel_rfl
theorem typeOf72 (v : Value) (w : World) : (ReflectliteType.typeOf #[.iface 72 v]).run Tryd.prog w = .ok (.iface 119 (.agg #[.pointer (some ⟨8, 72, none⟩)])) w := by kernel_rfl
theorem typeOf73 (v : Value) (w : World) : (ReflectliteType.typeOf #[.iface 73 v]).run Tryd.prog w = .ok (.iface 119 (.agg #[.pointer (some ⟨8, 73, none⟩)])) w := by kernel_rfl
theorem assignable72 (w : World) : (ReflectliteType.relation "AssignableTo" ReflectliteType.assignableTo #[.agg #[.pointer (some ⟨8, 72, none⟩)], .iface 119 (.agg #[.pointer (some ⟨8, 72, none⟩)])]).run Tryd.prog w = .ok (.bool true) w := by kernel_rfl
theorem assignable7273 (w : World) : (ReflectliteType.relation "AssignableTo" ReflectliteType.assignableTo #[.agg #[.pointer (some ⟨8, 72, none⟩)], .iface 119 (.agg #[.pointer (some ⟨8, 73, none⟩)])]).run Tryd.prog w = .ok (.bool false) w := by kernel_rfl
theorem assignable73 (w : World) : (ReflectliteType.relation "AssignableTo" ReflectliteType.assignableTo #[.agg #[.pointer (some ⟨8, 73, none⟩)], .iface 119 (.agg #[.pointer (some ⟨8, 73, none⟩)])]).run Tryd.prog w = .ok (.bool true) w := by kernel_rfl
theorem methodUnwrap (h : Value) (w : World) : (Go.method 294 72 h "Unwrap").run Tryd.prog w = .ok (115, h) w := by kernel_rfl
theorem rlm (z : Sem Value) (f : TypeId → Addr → Nat → Nat → Sem Value) (v : Value) :
    ReflectliteValue.method z f #[v] = (do match ← ReflectliteValue.parts v with | none => z | some (t, a, fl) => f t a fl (fl % 32)) := rfl
theorem parts75 (a : Addr) (w : World) : (ReflectliteValue.parts (.agg #[.pointer (some ⟨8, 75, none⟩), .pointer (some a), .int .u64 150])).run Tryd.prog w = .ok (some (75, a, 150)) w := by kernel_rfl
theorem parts76 (a : Addr) (w : World) : (ReflectliteValue.parts (.agg #[.pointer (some ⟨8, 76, none⟩), .pointer (some a), .int .u64 150])).run Tryd.prog w = .ok (some (76, a, 150)) w := by kernel_rfl
theorem isNil75 (a p : Addr) (W : World) (ha : W.cell? a = some (.pointer (some p))) :
    (ReflectliteValue.method (ReflectliteValue.valueError "reflectlite.Value.IsNil" 0) ReflectliteValue.isNil #[.agg #[.pointer (some ⟨8, 75, none⟩), .pointer (some a), .int .u64 150]]).run Tryd.prog W = .ok (.bool false) W := by
  rw [rlm]
  simp only [Sem.run_bind, parts75, Result.andThen]
  simp [ReflectliteValue.isNil, loadVar, isAgg, underlying, Tryd.underlying75, ha, Result.andThen]
theorem isNil76 (a p : Addr) (W : World) (ha : W.cell? a = some (.pointer (some p))) :
    (ReflectliteValue.method (ReflectliteValue.valueError "reflectlite.Value.IsNil" 0) ReflectliteValue.isNil #[.agg #[.pointer (some ⟨8, 76, none⟩), .pointer (some a), .int .u64 150]]).run Tryd.prog W = .ok (.bool false) W := by
  rw [rlm]
  simp only [Sem.run_bind, parts76, Result.andThen]
  simp [ReflectliteValue.isNil, loadVar, isAgg, underlying, Tryd.underlying76, ha, Result.andThen]
theorem elemT75 (w : World) : (Rtype.elem? 75).run Tryd.prog w = .ok (some 72) w := by kernel_rfl
theorem elemT76 (w : World) : (Rtype.elem? 76).run Tryd.prog w = .ok (some 73) w := by kernel_rfl
theorem mk72 (p : Addr) (w : World) : (ReflectliteValue.mk 72 p ReflectliteValue.flagAddr).run Tryd.prog w = .ok (.agg #[.pointer (some ⟨8, 72, none⟩), .pointer (some p), .int .u64 406]) w := by kernel_rfl
theorem mk73 (p : Addr) (w : World) : (ReflectliteValue.mk 73 p ReflectliteValue.flagAddr).run Tryd.prog w = .ok (.agg #[.pointer (some ⟨8, 73, none⟩), .pointer (some p), .int .u64 386]) w := by kernel_rfl
theorem elemV75 (a p : Addr) (W : World) (ha : W.cell? a = some (.pointer (some p))) :
    (ReflectliteValue.method (ReflectliteValue.valueError "reflectlite.Value.Elem" 0) ReflectliteValue.elem #[.agg #[.pointer (some ⟨8, 75, none⟩), .pointer (some a), .int .u64 150]]).run Tryd.prog W
      = .ok (.agg #[.pointer (some ⟨8, 72, none⟩), .pointer (some p), .int .u64 406]) W := by
  rw [rlm]
  simp only [Sem.run_bind, parts75, Result.andThen]
  simp [ReflectliteValue.elem, loadVar, isAgg, underlying, Tryd.underlying75, ha, Result.andThen, elemT75, mk72]
theorem elemV76 (a p : Addr) (W : World) (ha : W.cell? a = some (.pointer (some p))) :
    (ReflectliteValue.method (ReflectliteValue.valueError "reflectlite.Value.Elem" 0) ReflectliteValue.elem #[.agg #[.pointer (some ⟨8, 76, none⟩), .pointer (some a), .int .u64 150]]).run Tryd.prog W
      = .ok (.agg #[.pointer (some ⟨8, 73, none⟩), .pointer (some p), .int .u64 386]) W := by
  rw [rlm]
  simp only [Sem.run_bind, parts76, Result.andThen]
  simp [ReflectliteValue.elem, loadVar, isAgg, underlying, Tryd.underlying76, ha, Result.andThen, elemT76, mk73]
theorem rls (v x : Value) : ReflectliteValue.set #[v, x] = (do
    let (some (dst, a, fl), some (src, b, _)) := (← ReflectliteValue.parts v, ← ReflectliteValue.parts x)
      | unsupported (.noEntry "extern/(internal/reflectlite.Value).Set.zeroValue")
    if fl / ReflectliteValue.flagAddr % 2 == 0 then unsupported (.noEntry "extern/(internal/reflectlite.Value).Set.unaddressable")
    let val ← loadVar src b
    if ← Rtype.directlyAssignable dst src then storeVar dst a val
    else if ← Rtype.implements dst src then
      if (← Rtype.kind src) == 20 then
        match val with
        | .nilIface => unsupported (.noEntry "extern/reflectlite: a nil value of one interface type handed on as a value of another")
        | _ => storeVar dst a val
      else storeVar dst a (.iface src val)
    else panicString ("reflectlite.Set: value of type " ++ (← Rtype.spelt src) ++ " is not assignable to type " ++ (← Rtype.spelt dst))
    pure (.tuple #[])) := rfl
theorem parts72a (a : Addr) (w : World) : (ReflectliteValue.parts (.agg #[.pointer (some ⟨8, 72, none⟩), .pointer (some a), .int .u64 406])).run Tryd.prog w = .ok (some (72, a, 406)) w := by kernel_rfl
theorem parts72 (a : Addr) (w : World) : (ReflectliteValue.parts (.agg #[.pointer (some ⟨8, 72, none⟩), .pointer (some a), .int .u64 150])).run Tryd.prog w = .ok (some (72, a, 150)) w := by kernel_rfl
theorem parts73a (a : Addr) (w : World) : (ReflectliteValue.parts (.agg #[.pointer (some ⟨8, 73, none⟩), .pointer (some a), .int .u64 386])).run Tryd.prog w = .ok (some (73, a, 386)) w := by kernel_rfl
theorem parts73 (a : Addr) (w : World) : (ReflectliteValue.parts (.agg #[.pointer (some ⟨8, 73, none⟩), .pointer (some a), .int .u64 130])).run Tryd.prog w = .ok (some (73, a, 130)) w := by kernel_rfl
theorem direct72 (w : World) : (Rtype.directlyAssignable 72 72).run Tryd.prog w = .ok true w := by kernel_rfl
theorem direct73 (w : World) : (Rtype.directlyAssignable 73 73).run Tryd.prog w = .ok true w := by kernel_rfl
theorem set72 (ta b e : Addr) (old : Value) (W : World) (hb : W.cell? b = some (.pointer (some e))) (ht : W.cell? ta = some old) (hf : W.frozen? ta = false) :
    (ReflectliteValue.set #[.agg #[.pointer (some ⟨8, 72, none⟩), .pointer (some ta), .int .u64 406], .agg #[.pointer (some ⟨8, 72, none⟩), .pointer (some b), .int .u64 150]]).run Tryd.prog W
      = .ok (.tuple #[]) (W.setCell ta (.pointer (some e))) := by
  rw [rls]
  simp only [Sem.run_bind, parts72a, parts72, Result.andThen]
  simp [ReflectliteValue.flagAddr, loadVar, isAgg, underlying, Tryd.underlying72, hb, Result.andThen, direct72, storeVar, Value.cells, storeCells, Addr.add]
  rw [run_store Tryd.prog W ta _ _ (by rfl)]
  simp [ht, hf]
theorem set73 (ta b : Addr) (n : Int) (old : Value) (W : World) (hb : W.cell? b = some (.int .i64 n)) (ht : W.cell? ta = some old) (hf : W.frozen? ta = false) :
    (ReflectliteValue.set #[.agg #[.pointer (some ⟨8, 73, none⟩), .pointer (some ta), .int .u64 386], .agg #[.pointer (some ⟨8, 73, none⟩), .pointer (some b), .int .u64 130]]).run Tryd.prog W
      = .ok (.tuple #[]) (W.setCell ta (.int .i64 n)) := by
  rw [rls]
  simp only [Sem.run_bind, parts73a, parts73, Result.andThen]
  simp [ReflectliteValue.flagAddr, loadVar, isAgg, underlying, Tryd.underlying73, hb, Result.andThen, direct73, storeVar, Value.cells, storeCells, Addr.add]
  rw [run_store Tryd.prog W ta _ _ (by rfl)]
  simp [ht, hf]
end Go.Proofs.YtkjdmbbaacjpmaaDoor.As
end
section
namespace Go.Proofs.YtkjdmbbaacjpmaaDoor.As
open Go.RowKit Go.Extern.Stop Go.Stop Go.Extern
set_option linter.unusedVariables false
set_option linter.unusedSimpArgs false
theorem ta124 (v : Value) (w : World) : (Instr.typeAssert (.iface 72 v) 69 124 true).run Tryd.prog w = .ok (.tuple #[.nilIface, .bool false]) w := run_typeAssert_lacksB Tryd.underlying124 (by kernel_rfl) (by kernel_rfl) v 69 w
theorem unwrap (eb eo : Nat) (v : Value) (w : World) (h : w.cell? ⟨eb, eo + 1, none⟩ = some v) : Calls Tryd.prog 115 #[.pointer (some ⟨eb, eo, none⟩)] w fun e w' => e = .returned v ∧ w' = w := by
  go_enter Tryd.func115, Tryd.ntmps115
  go_wp2
  go_ret
  exact ⟨rfl, rfl⟩
theorem ta127 (v : Value) (w : World) : (Instr.typeAssert (.iface 72 v) 69 127 true).run Tryd.prog w = .ok (.tuple #[.iface 72 v, .bool true]) w := by kernel_rfl
set_option maxRecDepth 100000 in
set_option maxHeartbeats 4000000 in
theorem as_at (e t : Addr) (old : Value) (w : World) (hg : w.cell? ⟨0, 0, none⟩ = some (.iface 119 (.agg #[.pointer (some ⟨8, 69, none⟩)]))) (ht0 : w.cell? t = some old) (hf0 : w.frozen? t = false) :
    Calls Tryd.prog 40 #[.iface 72 (.pointer (some e)), .iface 75 (.pointer (some t))] w fun ev w' => ev = .returned (.bool true) ∧ w' = ((((w.alloc (.cells #[.pointer (some t)] 75)).alloc (.cells #[.pointer (some ⟨8, 75, none⟩), .pointer (some ⟨w.heap.size, 0, none⟩), .int .u64 150] 101)).alloc (.cells #[.pointer (some ⟨8, 75, none⟩), .pointer (some ⟨w.heap.size, 0, none⟩), .int .u64 150] 101)).alloc (.cells #[.pointer (some e)] 72)).setCell t (.pointer (some e)) := by
  have h6 := @run_callFunc_extern Tryd.prog 54 _ (fun args => ReflectliteValue.unpack (args.getD 0 (.tuple #[]))) Tryd.func54 (by kernel_rfl) (by kernel_rfl) (by kernel_rfl) (by kernel_rfl)
  have h7 := @run_callFunc_extern Tryd.prog 55 _ (ReflectliteValue.methodAny (ReflectliteValue.valueError "reflectlite.Value.Type" 0) (fun t _ _ _ => ReflectliteType.toType t)) Tryd.func55 (by kernel_rfl) (by kernel_rfl) (by kernel_rfl) (by kernel_rfl)
  have h8 := @run_callFunc_extern Tryd.prog 56 _ (ReflectliteValue.method (ReflectliteValue.valueError "reflectlite.Value.IsNil" 0) ReflectliteValue.isNil) Tryd.func56 (by kernel_rfl) (by kernel_rfl) (by kernel_rfl) (by kernel_rfl)
  have h27 := @run_callFunc_extern Tryd.prog 111 _ (ReflectliteType.abiMethod fun t => do pure (.int .u8 (← Rtype.kind t))) Tryd.func111 (by kernel_rfl) (by kernel_rfl) (by kernel_rfl) (by kernel_rfl)
  have h37 := @run_callFunc_extern Tryd.prog 123 _ (ReflectliteType.method ReflectliteType.elem) Tryd.func123 (by kernel_rfl) (by kernel_rfl) (by kernel_rfl) (by kernel_rfl)
  have h38 := @run_callFunc_extern Tryd.prog 124 _ (ReflectliteType.relation "Implements" ReflectliteType.implements_) Tryd.func124 (by kernel_rfl) (by kernel_rfl) (by kernel_rfl) (by kernel_rfl)
  have h10 := @run_callFunc_extern Tryd.prog 67 _ ReflectliteType.typeOf Tryd.func67 (by kernel_rfl) (by kernel_rfl) (by kernel_rfl) (by kernel_rfl)
  have h35 := @run_callFunc_extern Tryd.prog 121 _ (ReflectliteType.relation "AssignableTo" ReflectliteType.assignableTo) Tryd.func121 (by kernel_rfl) (by kernel_rfl) (by kernel_rfl) (by kernel_rfl)
  have h11 := @run_callFunc_extern Tryd.prog 68 _ (ReflectliteValue.method (ReflectliteValue.valueError "reflectlite.Value.Elem" 0) ReflectliteValue.elem) Tryd.func68 (by kernel_rfl) (by kernel_rfl) (by kernel_rfl) (by kernel_rfl)
  have h12 := @run_callFunc_extern Tryd.prog 69 _ ReflectliteValue.set Tryd.func69 (by kernel_rfl) (by kernel_rfl) (by kernel_rfl) (by kernel_rfl)
  have tO := typeOf72
  have mA := methodAssignableTo
  have a25 := assignable72
  have v25 := valueOf72
  have f6 := valueOf75
  have f7 := type75
  have mK := methodKind
  have mE := methodElem
  have mI := methodImplements
  have k27 := kindOf75
  have k25 := kindOf72
  have e27 := elemOf75
  have i25 := implements72
  have n8 := isNil75 ⟨w.heap.size, 0, none⟩ t ((w.alloc (.cells #[.pointer (some t)] 75)).alloc (.cells #[.pointer (some ⟨8, 75, none⟩), .pointer (some ⟨w.heap.size, 0, none⟩), .int .u64 150] 101)) (by simp)
  have hlt : 0 < w.heap.size := by
    rcases Nat.eq_zero_or_pos w.heap.size with h0 | h
    · simp [World.cell?, h0] at hg
    · exact h
  have hg2 : ((w.alloc (.cells #[.pointer (some t)] 75)).alloc (.cells #[.pointer (some ⟨8, 75, none⟩), .pointer (some ⟨w.heap.size, 0, none⟩), .int .u64 150] 101)).cell? ⟨0, 0, none⟩ = some (.iface 119 (.agg #[.pointer (some ⟨8, 69, none⟩)])) := by
    rw [World.cell?_alloc_lt _ _ ⟨0, 0, none⟩ (by simp), World.cell?_alloc_lt _ _ ⟨0, 0, none⟩ hlt]; exact hg
  have htl : t.block < w.heap.size := by
    rcases Nat.lt_or_ge t.block w.heap.size with h | h
    · exact h
    · simp [World.cell?, Array.getElem?_eq_none h] at ht0
  have el := elemV75 ⟨w.heap.size, 0, none⟩ t (((w.alloc (.cells #[.pointer (some t)] 75)).alloc (.cells #[.pointer (some ⟨8, 75, none⟩), .pointer (some ⟨w.heap.size, 0, none⟩), .int .u64 150] 101)).alloc (.cells #[.pointer (some ⟨8, 75, none⟩), .pointer (some ⟨w.heap.size, 0, none⟩), .int .u64 150] 101)) (by rw [World.cell?_alloc_lt _ _ ⟨w.heap.size, 0, none⟩ (by simp; omega)]; simp)
  have st := set72 t ⟨w.heap.size + 1 + 1 + 1, 0, none⟩ e old ((((w.alloc (.cells #[.pointer (some t)] 75)).alloc (.cells #[.pointer (some ⟨8, 75, none⟩), .pointer (some ⟨w.heap.size, 0, none⟩), .int .u64 150] 101)).alloc (.cells #[.pointer (some ⟨8, 75, none⟩), .pointer (some ⟨w.heap.size, 0, none⟩), .int .u64 150] 101)).alloc (.cells #[.pointer (some e)] 72))
    (by rw [World.cell?_alloc_at _ _ _ _ (by simp)]; rfl)
    (by rw [World.cell?_alloc_lt _ _ t (by simp; omega), World.cell?_alloc_lt _ _ t (by simp; omega), World.cell?_alloc_lt _ _ t (by simp; omega), World.cell?_alloc_lt _ _ t htl]; exact ht0)
    (by rw [World.frozen?_alloc_old _ _ t (by simp; omega), World.frozen?_alloc_old _ _ t (by simp; omega), World.frozen?_alloc_old _ _ t (by simp; omega), World.frozen?_alloc_old _ _ t (Nat.ne_of_lt htl)]; exact hf0)
  go_enter Tryd.func40, Tryd.ntmps40
  go_wp2
  refine wp_loop_rounds 1 ?_
  rw [rounds_succ]
  go_wp2
  go_ret
  exact ⟨rfl, rfl⟩
set_option maxRecDepth 100000 in
set_option maxHeartbeats 4000000 in
theorem as_fault (e t : Addr) (line n : Int) (old : Value) (w : World) (hg : w.cell? ⟨0, 0, none⟩ = some (.iface 119 (.agg #[.pointer (some ⟨8, 69, none⟩)]))) (ht0 : w.cell? t = some old) (hf0 : w.frozen? t = false) (heb : e.spot = none) (he1 : w.cell? ⟨e.block, e.off + 1, none⟩ = some (.iface 73 (.int .i64 n))) :
    Calls Tryd.prog 40 #[.iface 72 (.pointer (some e)), .iface 76 (.pointer (some t))] w fun ev w' => ev = .returned (.bool true) ∧ w' = ((((w.alloc (.cells #[.pointer (some t)] 76)).alloc (.cells #[.pointer (some ⟨8, 76, none⟩), .pointer (some ⟨w.heap.size, 0, none⟩), .int .u64 150] 101)).alloc (.cells #[.pointer (some ⟨8, 76, none⟩), .pointer (some ⟨w.heap.size, 0, none⟩), .int .u64 150] 101)).alloc (.cells #[.int .i64 n] 73)).setCell t (.int .i64 n) := by
  have h6 := @run_callFunc_extern Tryd.prog 54 _ (fun args => ReflectliteValue.unpack (args.getD 0 (.tuple #[]))) Tryd.func54 (by kernel_rfl) (by kernel_rfl) (by kernel_rfl) (by kernel_rfl)
  have h7 := @run_callFunc_extern Tryd.prog 55 _ (ReflectliteValue.methodAny (ReflectliteValue.valueError "reflectlite.Value.Type" 0) (fun t _ _ _ => ReflectliteType.toType t)) Tryd.func55 (by kernel_rfl) (by kernel_rfl) (by kernel_rfl) (by kernel_rfl)
  have h8 := @run_callFunc_extern Tryd.prog 56 _ (ReflectliteValue.method (ReflectliteValue.valueError "reflectlite.Value.IsNil" 0) ReflectliteValue.isNil) Tryd.func56 (by kernel_rfl) (by kernel_rfl) (by kernel_rfl) (by kernel_rfl)
  have h27 := @run_callFunc_extern Tryd.prog 111 _ (ReflectliteType.abiMethod fun t => do pure (.int .u8 (← Rtype.kind t))) Tryd.func111 (by kernel_rfl) (by kernel_rfl) (by kernel_rfl) (by kernel_rfl)
  have h37 := @run_callFunc_extern Tryd.prog 123 _ (ReflectliteType.method ReflectliteType.elem) Tryd.func123 (by kernel_rfl) (by kernel_rfl) (by kernel_rfl) (by kernel_rfl)
  have h38 := @run_callFunc_extern Tryd.prog 124 _ (ReflectliteType.relation "Implements" ReflectliteType.implements_) Tryd.func124 (by kernel_rfl) (by kernel_rfl) (by kernel_rfl) (by kernel_rfl)
  have h10 := @run_callFunc_extern Tryd.prog 67 _ ReflectliteType.typeOf Tryd.func67 (by kernel_rfl) (by kernel_rfl) (by kernel_rfl) (by kernel_rfl)
  have h35 := @run_callFunc_extern Tryd.prog 121 _ (ReflectliteType.relation "AssignableTo" ReflectliteType.assignableTo) Tryd.func121 (by kernel_rfl) (by kernel_rfl) (by kernel_rfl) (by kernel_rfl)
  have h11 := @run_callFunc_extern Tryd.prog 68 _ (ReflectliteValue.method (ReflectliteValue.valueError "reflectlite.Value.Elem" 0) ReflectliteValue.elem) Tryd.func68 (by kernel_rfl) (by kernel_rfl) (by kernel_rfl) (by kernel_rfl)
  have h12 := @run_callFunc_extern Tryd.prog 69 _ ReflectliteValue.set Tryd.func69 (by kernel_rfl) (by kernel_rfl) (by kernel_rfl) (by kernel_rfl)
  have tO := typeOf72
  have tO3 := typeOf73
  have mA := methodAssignableTo
  have a25 := assignable7273
  have a26 := assignable73
  have v25 := valueOf73
  have f6 := valueOf76
  have f7 := type76
  have mU := methodUnwrap
  have tA := ta124
  have tB := ta127
  have hU : ∀ (args : Array Value) (w : World), (callFunc 115 args).run Tryd.prog w = .ok (.enter 115 args) w := fun _ _ => by kernel_rfl
  have mK := methodKind
  have mE := methodElem
  have mI := methodImplements
  have k27 := kindOf76
  have k25 := kindOf73
  have e27 := elemOf76
  have i25 := implements73
  have n8 := isNil76 ⟨w.heap.size, 0, none⟩ t ((w.alloc (.cells #[.pointer (some t)] 76)).alloc (.cells #[.pointer (some ⟨8, 76, none⟩), .pointer (some ⟨w.heap.size, 0, none⟩), .int .u64 150] 101)) (by simp)
  have hlt : 0 < w.heap.size := by
    rcases Nat.eq_zero_or_pos w.heap.size with h0 | h
    · simp [World.cell?, h0] at hg
    · exact h
  have hg2 : ((w.alloc (.cells #[.pointer (some t)] 76)).alloc (.cells #[.pointer (some ⟨8, 76, none⟩), .pointer (some ⟨w.heap.size, 0, none⟩), .int .u64 150] 101)).cell? ⟨0, 0, none⟩ = some (.iface 119 (.agg #[.pointer (some ⟨8, 69, none⟩)])) := by
    rw [World.cell?_alloc_lt _ _ ⟨0, 0, none⟩ (by simp), World.cell?_alloc_lt _ _ ⟨0, 0, none⟩ hlt]; exact hg
  have htl : t.block < w.heap.size := by
    rcases Nat.lt_or_ge t.block w.heap.size with h | h
    · exact h
    · simp [World.cell?, Array.getElem?_eq_none h] at ht0
  have el := elemV76 ⟨w.heap.size, 0, none⟩ t (((w.alloc (.cells #[.pointer (some t)] 76)).alloc (.cells #[.pointer (some ⟨8, 76, none⟩), .pointer (some ⟨w.heap.size, 0, none⟩), .int .u64 150] 101)).alloc (.cells #[.pointer (some ⟨8, 76, none⟩), .pointer (some ⟨w.heap.size, 0, none⟩), .int .u64 150] 101)) (by rw [World.cell?_alloc_lt _ _ ⟨w.heap.size, 0, none⟩ (by simp; omega)]; simp)
  have st := set73 t ⟨w.heap.size + 1 + 1 + 1, 0, none⟩ n old ((((w.alloc (.cells #[.pointer (some t)] 76)).alloc (.cells #[.pointer (some ⟨8, 76, none⟩), .pointer (some ⟨w.heap.size, 0, none⟩), .int .u64 150] 101)).alloc (.cells #[.pointer (some ⟨8, 76, none⟩), .pointer (some ⟨w.heap.size, 0, none⟩), .int .u64 150] 101)).alloc (.cells #[.int .i64 n] 73))
    (by rw [World.cell?_alloc_at _ _ _ _ (by simp)]; rfl)
    (by rw [World.cell?_alloc_lt _ _ t (by simp; omega), World.cell?_alloc_lt _ _ t (by simp; omega), World.cell?_alloc_lt _ _ t (by simp; omega), World.cell?_alloc_lt _ _ t htl]; exact ht0)
    (by rw [World.frozen?_alloc_old _ _ t (by simp; omega), World.frozen?_alloc_old _ _ t (by simp; omega), World.frozen?_alloc_old _ _ t (by simp; omega), World.frozen?_alloc_old _ _ t (Nat.ne_of_lt htl)]; exact hf0)
  have hel : e.block < w.heap.size := World.block_lt_of_cell? w ⟨e.block, e.off + 1, none⟩ he1
  have he3 : (((w.alloc (.cells #[.pointer (some t)] 76)).alloc (.cells #[.pointer (some ⟨8, 76, none⟩), .pointer (some ⟨w.heap.size, 0, none⟩), .int .u64 150] 101)).alloc (.cells #[.pointer (some ⟨8, 76, none⟩), .pointer (some ⟨w.heap.size, 0, none⟩), .int .u64 150] 101)).cell? ⟨e.block, e.off + 1, none⟩ = some (.iface 73 (.int .i64 n)) := by
    rw [World.cell?_alloc_lt _ _ ⟨e.block, e.off + 1, none⟩ (by simp; omega), World.cell?_alloc_lt _ _ ⟨e.block, e.off + 1, none⟩ (by simp; omega), World.cell?_alloc_lt _ _ ⟨e.block, e.off + 1, none⟩ hel]; exact he1
  obtain ⟨eb, eo, es⟩ := e
  simp only at heb
  subst heb
  simp only at he1 he3 hel
  have HU := Lib.hid (unwrap eb eo _ _ he3)
  go_enter Tryd.func40, Tryd.ntmps40
  go_wp2
  refine wp_loop_rounds 2 ?_
  rw [rounds_succ]
  go_wp2_with (first | (refine HU.out.mono ?_; rintro e w' ⟨rfl, rfl⟩))
  rw [rounds_succ]
  go_wp2
  go_ret
  exact ⟨rfl, rfl⟩
end Go.Proofs.YtkjdmbbaacjpmaaDoor.As
end
section
namespace Go.Proofs.YtkjdmbbaacjpmaaDoor.Reader
open Go.RowKit Go.Proofs.YtkjdmbbaacjpmaaDoor.Scan Go.Proofs.YtkjdmbbaacjpmaaDoorW.PrintWords Go.Proofs.YtkjdmbbaacjpmaaDoorW.PrintLast Go.Proofs.YtkjdmbbaacjpmaaDoor.R
set_option linter.unusedVariables false
set_option linter.unusedSimpArgs false
theorem read_calls (A : Option Addr) (c : Nat) (xs : List Int) (w : World) (h : At w A c xs) (HT : C.Tab w) :
    Calls Tryd.prog 39 #[.slice A xs.length c] w (readPost w (readP xs)) := by
  unfold readP
  cases hx : headP xs with
  | none => exact read_head A c xs w h HT hx
  | some p =>
    obtain ⟨⟨d, n⟩, r⟩ := p
    exact read_body A c xs r d n _ w h HT hx rfl
def parseP (xs : List Int) : Int × Int × List S50 × Int × Int :=
  match readP xs with
  | .ok ((d, n), l) => (d, n, l, 0, 0)
  | .error (c, k) => (0, 0, [], c, k)
def Ety (w : World) : Prop := w.cell? ⟨0, 0, none⟩ = some (.iface 119 (.agg #[.pointer (some ⟨8, 69, none⟩)]))
theorem Ety.below {w W : World} (h : Ety w) (hb : Below w.heap.size w W) : Ety W := (hb.cell (p := ⟨0, 0, none⟩) (World.block_lt_of_cell? w _ h)).trans h
theorem as_at' (eb tb : Nat) (old : Value) (w : World) (hg : Ety w) (ht : w.heap[tb]? = some (.cells #[old] 72 (0, 0))) :
    Calls Tryd.prog 40 #[.iface 72 (.pointer (some ⟨eb, 0, none⟩)), .iface 75 (.pointer (some ⟨tb, 0, none⟩))] w fun ev w' => ev = .returned (.bool true) ∧ Below (w.setCell ⟨tb, 0, none⟩ (.pointer (some ⟨eb, 0, none⟩))).heap.size (w.setCell ⟨tb, 0, none⟩ (.pointer (some ⟨eb, 0, none⟩))) w' := by
  refine (As.as_at ⟨eb, 0, none⟩ ⟨tb, 0, none⟩ old w hg (blk_cell ht 0) (blk_frozen ht 0)).mono ?_
  rintro ev w' ⟨rfl, rfl⟩
  exact ⟨rfl, below_swap (by repeat (first | exact Below.refl _ _ | apply below_alloc)) _ _⟩
theorem as_fault' (eb tb : Nat) (k n : Int) (old : Value) (w : World) (hg : Ety w) (ht : w.heap[tb]? = some (.cells #[old] 73 (0, 0))) (he : w.heap[eb]? = some (.cells #[.int .i64 k, .iface 73 (.int .i64 n)] 78 (0, 0))) :
    Calls Tryd.prog 40 #[.iface 72 (.pointer (some ⟨eb, 0, none⟩)), .iface 76 (.pointer (some ⟨tb, 0, none⟩))] w fun ev w' => ev = .returned (.bool true) ∧ Below (w.setCell ⟨tb, 0, none⟩ (.int .i64 n)).heap.size (w.setCell ⟨tb, 0, none⟩ (.int .i64 n)) w' := by
  refine (As.as_fault ⟨eb, 0, none⟩ ⟨tb, 0, none⟩ k n old w hg (blk_cell ht 0) (blk_frozen ht 0) rfl (blk_cell he 1)).mono ?_
  rintro ev w' ⟨rfl, rfl⟩
  exact ⟨rfl, below_swap (by repeat (first | exact Below.refl _ _ | apply below_alloc)) _ _⟩
def parsePost (w : World) (p : Int × Int × List S50 × Int × Int) (e : Ending) (w' : World) : Prop :=
  ∃ v, e = .returned (.tuple #[.agg #[.int .i64 p.1, .int .i64 p.2.1, v], .int .i64 p.2.2.2.1, .int .i64 p.2.2.2.2]) ∧ Kd.R k50 50 w' w.heap.size (fun _ => True) v p.2.2.1 ∧ Below w.heap.size w w'
theorem readPost_ok' {w w' : World} {e : Ending} {d n : Int} {l : List S50} (h : readPost w (.ok ((d, n), l)) e w') : ∃ Av cv, e = .returned (.tuple #[.agg #[.int .i64 d, .int .i64 n, .slice Av l.length cv], .nilIface]) ∧ Kd.R k50 50 w' w.heap.size (fun _ => True) (.slice Av l.length cv) l ∧ Below w.heap.size w w' := by
  obtain ⟨v, he, hR, hb⟩ := h
  obtain ⟨Av, cv, rfl⟩ := Kd.R_slice hR
  exact ⟨Av, cv, he, hR, hb⟩
theorem R_fin {W : World} {base rb : Nat} {v : Value} {l : List S50} {cs : Array Value} (h : Kd.R k50 50 W base (fun _ => True) v l) (hb : W.heap[rb]? = some (.cells cs 32 (0, 0))) (a b u : Value) :
    Kd.R k50 50 (((W.setCell ⟨rb, 0, none⟩ a).setCell ⟨rb, 1, none⟩ b).setCell ⟨rb, 2, none⟩ u) base (fun _ => True) v l :=
  Kd.R_set (Kd.R_set (Kd.R_set h hb (by decide) 0 a) (blk_set hb 0 a) (by decide) 1 b) (blk_set (blk_set hb 0 a) 1 b) (by decide) 2 u
set_option maxRecDepth 100000 in
theorem parse_ok (A : Option Addr) (c : Nat) (xs : List Int) (d n : Int) (l : List S50) (w : World) (h : At w A c xs) (HT : C.Tab w) (hx : readP xs = .ok ((d, n), l)) :
    Calls Tryd.prog 24 #[.slice A xs.length c] w (parsePost w (d, n, l, 0, 0)) := by
  have hr := read_calls A c xs
  have HC : Aside0 (∀ W, Below w.heap.size w W → Calls Tryd.prog 39 #[.slice A xs.length c] W (readPost W (.ok ((d, n), l)))) := ⟨fun W hb => hx ▸ hr W (h.frame hb) (C.tab_below HT hb)⟩
  clear hr h hx HT
  generalize xs.length = yn at *
  go_enter Tryd.func24, Tryd.ntmps24
  go_wp2_with (first
    | (refine (HC.out _ ?_).mono ?_; (repeat (first | exact Below.refl _ _ | apply pw_below_drewN | apply below_alloc)); intro e w1 hP; obtain ⟨Av, cv, rfl, hR, hb⟩ := readPost_ok' hP; clear hP; have BK := Aside0.mk (blk_below (blk_new _ _) hb); have HR := Lib.hid (Kd.R_lower hR (show w.heap.size ≤ _ by simp)); clear hR; have HB := Lib.hid (below_step (below_alloc (Below.refl _ _) _) hb); clear hb; have g0_ : w1.cell? ⟨w.heap.size, 0, none⟩ = some (.int .i64 0) := blk_cell BK.out 0; have g1_ : w1.cell? ⟨w.heap.size, 1, none⟩ = some (.int .i64 0) := blk_cell BK.out 1; have g2_ : w1.cell? ⟨w.heap.size, 2, none⟩ = some (.slice none 0 0) := blk_cell BK.out 2; have z0_ := blk_frozen BK.out 0; have z1_ := blk_frozen BK.out 1; have z2_ := blk_frozen BK.out 2; have lt2_ : w.heap.size < w1.heap.size := blk_lt BK.out; have ne2_ : ¬ w.heap.size = w1.heap.size := Nat.ne_of_lt lt2_; have lta_ : w.heap.size < w1.heap.size + 1 := (by omega); have ltb_ : w.heap.size < w1.heap.size + 1 + 1 := (by omega); have nea_ : ¬ w.heap.size = w1.heap.size + 1 := (by omega); have neb_ : ¬ w.heap.size = w1.heap.size + 1 + 1 := (by omega))
    | (go_at_call 40; refine (As.as_nil _ _).mono ?_; rintro e w' ⟨rfl, rfl⟩))
  exact bodyPost_ret (v := .tuple #[.agg #[.int .i64 d, .int .i64 n, .slice Av l.length cv], .int .i64 0, .int .i64 0]) (by simp [results, Tryd.results24, go_sem, g0_, g1_, g2_, lt2_, ne2_, lta_, ltb_, nea_, neb_]) rfl
    ⟨.slice Av l.length cv, rfl, (by (with_reducible repeat (first | apply Kd.R_alloc | apply Kd.R_drewN | apply Kd.R_drew)); exact R_fin HR.out BK.out _ _ _), (by repeat (first | exact HB.out | apply below_alloc | apply pw_below_drewN | refine below_set ?_ (Nat.le_refl _)))⟩
structure PS (w W : World) (t7 t8 eb : Nat) (v7 v8 : Value) (k q : Int) : Prop where
  bel : Below w.heap.size w W
  res : W.heap[w.heap.size]? = some (.cells #[.int .i64 0, .int .i64 0, .slice none 0 0] 32 (0, 0))
  b7 : W.heap[t7]? = some (.cells #[v7] 72 (0, 0))
  b8 : W.heap[t8]? = some (.cells #[v8] 73 (0, 0))
  be : W.heap[eb]? = some (.cells #[.int .i64 k, .iface 73 (.int .i64 q)] 78 (0, 0))
  ety : Ety W
  g7 : w.heap.size < t7
  g8 : w.heap.size < t8
theorem PS.start {w w1 : World} {eb : Nat} {k q : Int} (b : Obj) (hb : Below w.heap.size w w1) (hr : w1.heap[w.heap.size]? = some (.cells #[.int .i64 0, .int .i64 0, .slice none 0 0] 32 (0, 0))) (he : w1.heap[eb]? = some (.cells #[.int .i64 k, .iface 73 (.int .i64 q)] 78 (0, 0))) (hg : Ety w) :
    PS w (((w1.alloc b).alloc (.cells #[.pointer none] 72)).alloc (.cells #[.int .i64 0] 73)) (w1.heap.size + 1) (w1.heap.size + 1 + 1) eb (.pointer none) (.int .i64 0) k q := by
  have hlt := blk_lt hr
  refine ⟨below_alloc (below_alloc (below_alloc hb _) _) _, blk_alloc (blk_alloc (blk_alloc hr _) _) _, blk_alloc (blk_new' _ _ _ (by simp)) _, blk_new' _ _ _ (by simp), blk_alloc (blk_alloc (blk_alloc he _) _) _, hg.below (below_alloc (below_alloc (below_alloc hb _) _) _), by omega, by omega⟩
theorem PS.set7 {w W W2 : World} {t7 t8 eb : Nat} {v7 v8 : Value} {k q : Int} (h : PS w W t7 t8 eb v7 v8 k q) (u : Value) (hb : Below (W.setCell ⟨t7, 0, none⟩ u).heap.size (W.setCell ⟨t7, 0, none⟩ u) W2) : PS w W2 t7 t8 eb u v8 k q := by
  have e0 : Ety (W.setCell ⟨t7, 0, none⟩ u) := by
    have := h.ety
    unfold Ety at this ⊢
    rw [World.cell?_setCell_far _ _ _ _ (show t7 ≠ 0 by have := h.g7; omega)]
    exact this
  exact ⟨below_step (below_set h.bel (Nat.le_of_lt h.g7)) hb, blk_below (blk_far h.res (Nat.ne_of_lt h.g7) _) hb, blk_below (blk_put h.b7 0 _ rfl) hb, blk_below (blk_far h.b8 (blk_ne h.b8 h.b7 (by decide)) _) hb, blk_below (blk_far h.be (blk_ne h.be h.b7 (by decide)) _) hb, e0.below hb, h.g7, h.g8⟩
theorem PS.set8 {w W W2 : World} {t7 t8 eb : Nat} {v7 v8 : Value} {k q : Int} (h : PS w W t7 t8 eb v7 v8 k q) (u : Value) (hb : Below (W.setCell ⟨t8, 0, none⟩ u).heap.size (W.setCell ⟨t8, 0, none⟩ u) W2) : PS w W2 t7 t8 eb v7 u k q := by
  have e0 : Ety (W.setCell ⟨t8, 0, none⟩ u) := by
    have := h.ety
    unfold Ety at this ⊢
    rw [World.cell?_setCell_far _ _ _ _ (show t8 ≠ 0 by have := h.g8; omega)]
    exact this
  exact ⟨below_step (below_set h.bel (Nat.le_of_lt h.g8)) hb, blk_below (blk_far h.res (Nat.ne_of_lt h.g8) _) hb, blk_below (blk_far h.b7 (blk_ne h.b7 h.b8 (by decide)) _) hb, blk_below (blk_put h.b8 0 _ rfl) hb, blk_below (blk_far h.be (blk_ne h.be h.b8 (by decide)) _) hb, e0.below hb, h.g7, h.g8⟩
set_option maxRecDepth 100000 in
theorem parse_err (A : Option Addr) (c : Nat) (xs : List Int) (q k : Int) (w : World) (h : At w A c xs) (HT : C.Tab w) (HG : Ety w) (hx : readP xs = .error (q, k)) :
    Calls Tryd.prog 24 #[.slice A xs.length c] w (parsePost w (0, 0, [], q, k)) := by
  have hr := read_calls A c xs
  have HC : Aside0 (∀ W, Below w.heap.size w W → Calls Tryd.prog 39 #[.slice A xs.length c] W (readPost W (.error (q, k)))) := ⟨fun W hb => hx ▸ hr W (h.frame hb) (C.tab_below HT hb)⟩
  have HE := Lib.hid HG
  clear hr h hx HT HG
  generalize xs.length = yn at *
  go_enter Tryd.func24, Tryd.ntmps24
  go_wp2_with (first
    | (go_at_call 39; (with_reducible refine (HC.out _ ?_).mono ?_); (repeat (first | exact Below.refl _ _ | apply pw_below_drewN | apply below_alloc)); intro e w1 hP; obtain ⟨eb, rfl, he, hge, hb⟩ := hP; have HS := Lib.hid (PS.start (.cells #[.int .i64 0, .int .i64 0, .slice none 0 0] 32) (below_step (below_alloc (Below.refl _ _) _) hb) (blk_below (blk_new _ _) hb) he HE.out); clear he hge hb)
    | (go_at_call 40; (with_reducible refine (as_at' eb (w1.heap.size + 1) _ _ HS.out.ety HS.out.b7).mono ?_); rintro e w2 ⟨rfl, hb⟩; have HS2 := Lib.hid (HS.out.set7 _ hb); clear hb)
    | (go_at_call 40; (with_reducible refine (as_fault' eb (w1.heap.size + 1 + 1) _ _ _ _ HS2.out.ety HS2.out.b8 HS2.out.be).mono ?_); rintro e w3 ⟨rfl, hb⟩; have HS3 := Lib.hid (HS2.out.set8 _ hb); clear hb; have BK := Aside0.mk HS3.out.res; have g0_ : w3.cell? ⟨w.heap.size, 0, none⟩ = some (.int .i64 0) := blk_cell BK.out 0; have g1_ : w3.cell? ⟨w.heap.size, 1, none⟩ = some (.int .i64 0) := blk_cell BK.out 1; have g2_ : w3.cell? ⟨w.heap.size, 2, none⟩ = some (.slice none 0 0) := blk_cell BK.out 2; have z0_ := blk_frozen BK.out 0; have z1_ := blk_frozen BK.out 1; have z2_ := blk_frozen BK.out 2; have lt2_ : w.heap.size < w3.heap.size := blk_lt BK.out; have ne2_ : ¬ w.heap.size = w3.heap.size := Nat.ne_of_lt lt2_; have nea_ := Nat.ne_of_lt HS3.out.g7; have neb_ := Nat.ne_of_lt HS3.out.g8; have nec_ := blk_ne HS3.out.res HS3.out.be (by decide); have nea2_ := Ne.symm nea_; have neb2_ := Ne.symm neb_; have nec2_ := Ne.symm nec_; have t7_ := blk_cell HS3.out.b7 0; have t8_ := blk_cell HS3.out.b8 0; have te_ := blk_cell HS3.out.be 0; simp only [List.getElem?_toArray, List.getElem?_cons_zero] at t7_ t8_ te_))
  go_region
  go_wp2
  exact bodyPost_ret (v := .tuple #[.agg #[.int .i64 0, .int .i64 0, .slice none 0 0], .int .i64 q, .int .i64 k]) (by simp [results, Tryd.results24, go_sem, g0_, g1_, g2_, lt2_, ne2_]) rfl
    ⟨.slice none 0 0, rfl, Kd.R_nil _ _ _ _ _, (by repeat (first | exact HS3.out.bel | apply Below.drew | apply below_alloc | apply pw_below_drewN | refine below_set ?_ (Nat.le_refl _)))⟩
theorem parse_calls (A : Option Addr) (c : Nat) (xs : List Int) (w : World) (h : At w A c xs) (HT : C.Tab w) (HG : Ety w) :
    Calls Tryd.prog 24 #[.slice A xs.length c] w (parsePost w (parseP xs)) := by
  unfold parseP
  cases hx : readP xs with
  | ok p =>
    obtain ⟨⟨d, n⟩, l⟩ := p
    exact parse_ok A c xs d n l w h HT hx
  | error p =>
    obtain ⟨q, k⟩ := p
    exact parse_err A c xs q k w h HT HG hx
end Go.Proofs.YtkjdmbbaacjpmaaDoor.Reader
end
section
namespace Go.Proofs.YtkjdmbbaacjpmaaDoor.Reads
open Go.RowKit Go.Proofs.YtkjdmbbaacjpmaaDoor.R Go.Proofs.YtkjdmbbaacjpmaaDoor.Scan Go.Proofs.YtkjdmbbaacjpmaaDoor.Reader Go.Proofs.YtkjdmbbaacjpmaaDoor.Num Go.Proofs.YtkjdmbbaacjpmaaDoor.DDigits Go.Proofs.YtkjdmbbaacjpmaaDoorW.PrintWords
set_option linter.unusedVariables false
set_option linter.unusedSimpArgs false
def Dg (x : Int) : Prop := 0 ≤ x ∧ x ≤ 9
theorem valid7 {a0 a1 a2 a3 a4 a5 a6 : Int} (h0 : Dg a0) (h1 : Dg a1) (h2 : Dg a2) (h3 : Dg a3) (h4 : Dg a4) (h5 : Dg a5) (h6 : Dg a6) :
    validB (strOfNums [48 + a0, 48 + a1, 48 + a2, 48 + a3, 48 + a4, 48 + a5, 48 + a6]) = ((a0 + dbl a1 + a2 + dbl a3 + a4 + dbl a5 + a6) % 10 == 0) := by
  unfold Dg at *
  have hb : bytesOf (strOfNums [48 + a0, 48 + a1, 48 + a2, 48 + a3, 48 + a4, 48 + a5, 48 + a6]) = [48 + a0, 48 + a1, 48 + a2, 48 + a3, 48 + a4, 48 + a5, 48 + a6] := by
    refine bytesOf_str _ fun x hx => ?_
    simp only [List.mem_cons, List.not_mem_nil, or_false] at hx
    rcases hx with rfl | rfl | rfl | rfl | rfl | rfl | rfl <;> omega
  have hd : digitsB (strOfNums [48 + a0, 48 + a1, 48 + a2, 48 + a3, 48 + a4, 48 + a5, 48 + a6]) = true := by
    unfold digitsB
    rw [hb, List.all_eq_true]
    intro x hx
    simp only [List.mem_cons, List.not_mem_nil, or_false] at hx
    rw [decide_eq_true_eq]
    rcases hx with rfl | rfl | rfl | rfl | rfl | rfl | rfl <;> omega
  have hl : behind [48 + a0, 48 + a1, 48 + a2, 48 + a3, 48 + a4, 48 + a5, 48 + a6] = [a6, a5, a4, a3, a2, a1, a0] := by
    simp only [behind, List.map_cons, List.map_nil, List.reverse_cons, List.reverse_nil, List.nil_append, List.cons_append]
    have e : ∀ x : Int, 48 + x - 48 = x := fun x => by omega
    simp only [e]
  unfold validB
  rw [hd, hb, hl, strOfNums_size]
  simp only [List.length_cons, List.length_nil, Bool.and_true, lsum, Bool.not_false, Bool.not_true, if_true, Bool.false_eq_true, if_false]
  rw [decide_eq_true (by omega), Bool.true_and]
  rw [show a6 + (dbl a5 + (a4 + (dbl a3 + (a2 + (dbl a1 + (a0 + 0)))))) = a0 + dbl a1 + a2 + dbl a3 + a4 + dbl a5 + a6 by omega]
theorem seven_of {l : List Int} (h : l.length = 7) : ∃ a b c d e f g, l = [a, b, c, d, e, f, g] := by
  match l, h with
  | [a, b, c, d, e, f, g], _ => exact ⟨a, b, c, d, e, f, g, rfl⟩
theorem valid_check {t : List Int} (hl : 12 ≤ t.length) (hd : ((t.drop 5).take 7).all isDig = true) :
    validB (strOfNums ((t.drop 5).take 7)) = (fieldP t 11 1 == digitOf (fieldP t 5 6)) := by
  have h7 : ((t.drop 5).take 7).length = 7 := by rw [List.length_take, List.length_drop]; omega
  have e6 : (t.drop 5).take 6 = ((t.drop 5).take 7).take 6 := by rw [List.take_take]; rfl
  have e1 : (t.drop 11).take 1 = ((t.drop 5).take 7).drop 6 := by rw [List.drop_take, List.drop_drop]
  unfold fieldP
  rw [e6, e1]
  obtain ⟨c0, c1, c2, c3, c4, c5, c6, hc⟩ := seven_of h7
  rw [hc] at hd ⊢
  clear hc e6 e1 h7 hl
  simp only [List.all_cons, List.all_nil, Bool.and_true, Bool.and_eq_true, isDig, decide_eq_true_eq] at hd
  obtain ⟨d0, d1, d2, d3, d4, d5, d6⟩ := hd
  obtain ⟨a0, rfl⟩ : ∃ a : Nat, c0 = 48 + (a : Int) := ⟨(c0 - 48).toNat, by omega⟩
  obtain ⟨a1, rfl⟩ : ∃ a : Nat, c1 = 48 + (a : Int) := ⟨(c1 - 48).toNat, by omega⟩
  obtain ⟨a2, rfl⟩ : ∃ a : Nat, c2 = 48 + (a : Int) := ⟨(c2 - 48).toNat, by omega⟩
  obtain ⟨a3, rfl⟩ : ∃ a : Nat, c3 = 48 + (a : Int) := ⟨(c3 - 48).toNat, by omega⟩
  obtain ⟨a4, rfl⟩ : ∃ a : Nat, c4 = 48 + (a : Int) := ⟨(c4 - 48).toNat, by omega⟩
  obtain ⟨a5, rfl⟩ : ∃ a : Nat, c5 = 48 + (a : Int) := ⟨(c5 - 48).toNat, by omega⟩
  obtain ⟨a6, rfl⟩ : ∃ a : Nat, c6 = 48 + (a : Int) := ⟨(c6 - 48).toNat, by omega⟩
  rw [valid7 ⟨by omega, by omega⟩ ⟨by omega, by omega⟩ ⟨by omega, by omega⟩ ⟨by omega, by omega⟩ ⟨by omega, by omega⟩ ⟨by omega, by omega⟩ ⟨by omega, by omega⟩]
  simp only [List.take_succ_cons, List.take_zero, List.drop_succ_cons, List.drop_zero, valFrom]
  obtain ⟨n, hn⟩ : ∃ n : Nat, n = 100000 * a0 + 10000 * a1 + 1000 * a2 + 100 * a3 + 10 * a4 + a5 := ⟨_, rfl⟩
  have hv : (10 * (10 * (10 * (10 * (10 * (10 * 0 + (48 + (a0 : Int) - 48)) + (48 + (a1 : Int) - 48)) + (48 + (a2 : Int) - 48)) + (48 + (a3 : Int) - 48)) + (48 + (a4 : Int) - 48)) + (48 + (a5 : Int) - 48)) = (n : Int) := by omega
  rw [hv]
  have hr : rdig 6 n = [(a5 : Int), a4, a3, a2, a1, a0] := by
    simp only [rdig]
    have x0 : n % 10 = a5 := by omega
    have x1 : n / 10 % 10 = a4 := by omega
    have x2 : n / 10 / 10 % 10 = a3 := by omega
    have x3 : n / 10 / 10 / 10 % 10 = a2 := by omega
    have x4 : n / 10 / 10 / 10 / 10 % 10 = a1 := by omega
    have x5 : n / 10 / 10 / 10 / 10 / 10 % 10 = a0 := by omega
    rw [x0, x1, x2, x3, x4, x5]
  have hok : okN (n : Int) = true := by unfold okN; rw [decide_eq_true_eq]; omega
  have hdg : digitOf (n : Int) = chk n := by unfold digitOf; rw [if_pos hok]
  rw [hdg]
  unfold chk
  rw [Int.toNat_natCast, hr]
  simp only [lsum, Bool.not_true, Bool.not_false, if_true, Bool.false_eq_true, if_false]
  have b1 := dbl_range (d := (a1 : Int)) (by omega) (by omega)
  have b3 := dbl_range (d := (a3 : Int)) (by omega) (by omega)
  have b5 := dbl_range (d := (a5 : Int)) (by omega) (by omega)
  generalize dbl (a1 : Int) = q1 at *
  generalize dbl (a3 : Int) = q3 at *
  generalize dbl (a5 : Int) = q5 at *
  clear hv hr hok hdg hn
  rw [Bool.eq_iff_iff, beq_iff_eq, beq_iff_eq]
  omega
def detL (t : List Int) (k : Int) : Int × Int × Int :=
  if lineOk t 68 23 = true then (if fieldP t 5 6 = 0 ∨ fieldP t 12 12 = 0 then (0, 0, 200) else if validB (strOfNums ((t.drop 5).take 7)) = false then (0, 0, 201) else if fieldP t 1 4 ≠ k then (0, 0, 202) else (fieldP t 5 6, fieldP t 12 12, 0)) else (0, 0, 200)
theorem detail_ev (t : List Int) (q : Int) (hl : t.length ≤ 1000000000000) : Ev (fun k => arrearsref20_detail.f k t q) (detL t q) := by
  refine Ev.congr (f := fun k => ((arrearsref20_formed.f k t 68 23).bind fun t147 => (if t147 = true then ((arrearsref20_field.f k t 5 6).bind fun t148 => ((arrearsref20_field.f k t 12 12).bind fun t149 => (if t148 = 0 then (arrearsref20_detail.j0 k t q true t148 t149) else (arrearsref20_detail.j0 k t q (t149 == 0) t148 t149)))) else (some (0, 0, 200))) : Option (Int × Int × Int))) (fun k => rfl) (Ev.bind (formed_ev t 68 23 hl (by omega)) ?_)
  by_cases hk : lineOk t 68 23 = true
  · obtain ⟨htl, hdg⟩ := lineOk_dig hk
    unfold detL
    simp only [hk, if_true]
    refine Ev.bind (field_ev t 5 6 (by omega) (by omega) (by omega) (hdg 5 6 (by omega))) (f := fun k t148 => (((arrearsref20_field.f k t 12 12).bind fun t149 => (if t148 = 0 then (arrearsref20_detail.j0 k t q true t148 t149) else (arrearsref20_detail.j0 k t q (t149 == 0) t148 t149))) : Option (Int × Int × Int))) ?_
    refine Ev.bind (field_ev t 12 12 (by omega) (by omega) (by omega) (hdg 12 12 (by omega))) (f := fun k t149 => ((if fieldP t 5 6 = 0 then (arrearsref20_detail.j0 k t q true (fieldP t 5 6) t149) else (arrearsref20_detail.j0 k t q (t149 == 0) (fieldP t 5 6) t149)) : Option (Int × Int × Int))) ?_
    have hbad : ∀ a b : Int, Ev (fun k => arrearsref20_detail.j0 k t q true a b) (0, 0, 200) := fun a b => Ev.step (fun k => by simp only [arrearsref20_detail.j0]; rfl) (Ev.now _)
    by_cases h1 : fieldP t 5 6 = 0
    · rw [if_pos (.inl h1)]
      simp only [h1, if_true]
      exact hbad _ _
    · simp only [h1, if_false, false_or]
      by_cases h2 : fieldP t 12 12 = 0
      · simp only [h2, if_true, beq_self_eq_true]
        exact hbad _ _
      · rw [if_neg h2]
        have hb2 : (fieldP t 12 12 == 0) = false := by rw [beq_eq_false_iff_ne]; exact h2
        rw [hb2]
        have hv := valid_check (by omega : 12 ≤ t.length) (hdg 5 7 (by omega))
        rw [hv]
        refine Ev.step (f := fun k => (((arrearsref20_CheckDigit.f (fieldP t 5 6)).bind fun bt151 => ((arrearsref20_field.f k t 11 1).bind fun t153 => (if t153 = bt151.1 then ((arrearsref20_field.f k t 1 4).bind fun t154 => (if t154 = q then (some (fieldP t 5 6, fieldP t 12 12, 0)) else (some (0, 0, 202)))) else (some (0, 0, 201))))) : Option (Int × Int × Int))) (fun k => by simp only [arrearsref20_detail.j0]; rfl) ?_
        simp only [arrearsref20_CheckDigit.f, Option.bind_some]
        refine Ev.bind (field_ev t 11 1 (by omega) (by omega) (by omega) (hdg 11 1 (by omega))) (f := fun k t153 => ((if t153 = digitOf (fieldP t 5 6) then ((arrearsref20_field.f k t 1 4).bind fun t154 => (if t154 = q then (some (fieldP t 5 6, fieldP t 12 12, 0)) else (some (0, 0, 202)))) else (some (0, 0, 201))) : Option (Int × Int × Int))) ?_
        by_cases h3 : fieldP t 11 1 = digitOf (fieldP t 5 6)
        · simp only [h3, if_true, beq_self_eq_true, Bool.true_eq_false, if_false]
          refine Ev.bind (field_ev t 1 4 (by omega) (by omega) (by omega) (hdg 1 4 (by omega))) (f := fun _ t154 => ((if t154 = q then (some (fieldP t 5 6, fieldP t 12 12, 0)) else (some (0, 0, 202))) : Option (Int × Int × Int))) ?_
          refine Ev.congr (fun k => ?_) (Ev.now _)
          by_cases h4 : fieldP t 1 4 = q
          · rw [if_pos h4, if_neg (fun h => h h4)]
          · rw [if_neg h4, if_pos h4]
        · refine Ev.congr (fun k => ?_) (Ev.now _)
          rw [if_neg h3, if_pos (beq_eq_false_iff_ne.2 h3)]
  · refine Ev.congr (fun k => ?_) (Ev.now _)
    rw [if_neg hk]
    unfold detL
    rw [if_neg hk]
def ans (d n : Int) : Except (Int × Int) (List S50) → Int × Int × List S50 × Int × Int
  | .ok l => (d, n, l, 0, 0)
  | .error (c, k) => (0, 0, [], c, k)
theorem nextP_line {xs : List Int} {letter : Int} {n : Nat} (he : eol xs < xs.length) : nextP xs letter n = if lineOk (xs.take (eol xs)) letter n = true then some (xs.take (eol xs), xs.drop (eol xs + 1)) else none := by
  unfold nextP
  by_cases h : lineOk (xs.take (eol xs)) letter n = true
  · rw [if_pos ⟨he, h⟩, if_pos h]
  · rw [if_neg (fun hh => h hh.2), if_neg h]
theorem nextP_off {xs : List Int} {letter : Int} {n : Nat} (he : ¬ eol xs < xs.length) : nextP xs letter n = none := by
  unfold nextP; rw [if_neg (fun hh => he hh.1)]
theorem brk_line {xs : List Int} {k : Int} (h1 : 1 < k) (h9 : k ≤ 9999) (he : eol xs < xs.length) : brk xs k = (decide (0 < (xs.take (eol xs)).length) && (rd (xs.take (eol xs)) 0 == 84)) := by
  cases xs with
  | nil => simp at he
  | cons x t =>
    have b1 : decide (9999 < k) = false := decide_eq_false (by omega)
    have b2 : decide (1 < k) = true := decide_eq_true h1
    by_cases h10 : x = 10
    · have e0 : eol (x :: t) = 0 := by simp [eol, h10]
      rw [e0]
      simp [brk, b1, h10]
    · have e1 : eol (x :: t) = eol t + 1 := by simp [eol, h10]
      simp [brk, b1, b2, e1, rd]
theorem loop_ev (L : List (List Int)) (left : Bool) (d n : Int) (hLs : ∀ t ∈ L, t.length ≤ 1000000000000) (hL : L.length ≤ 1000000000000) : ∀ (f : Nat) (k : Nat) (xs : List Int) (l : List S50), 1 ≤ k → k ≤ 10000 → f + k ≥ 10002 → l.length + 1 = k → k ≤ L.length → L.drop k = (linesP [] xs).1 → left = (linesP [] xs).2 →
    Ev (fun j => arrearsref20_Parse.l0 j L left k d n l) (ans d n (loopP f xs k l)) := by
  intro f
  induction f with
  | zero => intro k xs l h1 h2 h3; omega
  | succ f ih =>
    intro k xs l h1 h2 h3 hlk hkL hD hF
    by_cases he : eol xs < xs.length
    · have hlp := linesP_eol xs []
      rw [if_pos he] at hlp
      simp only [List.nil_append] at hlp
      rw [hlp] at hD hF
      simp only at hD hF
      have hk : k < L.length := by
        apply Classical.byContradiction
        intro hn
        rw [List.drop_eq_nil_of_le (by omega)] at hD
        cases hD
      have hLk : L[k] = xs.take (eol xs) := by
        have := List.drop_eq_getElem_cons hk
        rw [hD] at this
        exact (List.cons.inj this).1.symm
      have hD2 : L.drop (k + 1) = (linesP [] (xs.drop (eol xs + 1))).1 := by
        have := List.drop_eq_getElem_cons hk
        rw [hD] at this
        exact (List.cons.inj this).2.symm
      have hrd : rd_L3 L (k : Int) = xs.take (eol xs) := by
        unfold rd_L3
        rw [Int.toNat_natCast, List.getD_eq_getElem?_getD, List.getElem?_eq_getElem hk]; exact hLk
      have htl : (xs.take (eol xs)).length ≤ 1000000000000 := hLk ▸ hLs _ (List.getElem_mem hk)
      have hil : l.length ≤ 100000 := by omega
      have hj : ∀ b : Bool, b = brk xs k → Ev (fun j => arrearsref20_Parse.j1 j L left k b d n l) (ans d n (loopP (f + 1) xs k l)) := by
        intro b hb
        rw [loopP]
        cases b with
        | true =>
          rw [← hb, if_pos rfl]
          refine Ev.step (f := fun j => (((arrearsref20_trailer.f j (xs.take (eol xs)) l).bind fun t172 => (if t172 = 0 then (if left = true then (arrearsref20_Parse.j2 j k true d n l) else (arrearsref20_Parse.j2 j k (decide ((wrap64 ((k : Int) + 1)) < (L.length : Int))) d n l)) else (some (0, 0, ([] : List (S50)), t172, (k : Int))))) : Option (Int × Int × List S50 × Int × Int))) (fun j => by simp only [arrearsref20_Parse.j1]; rw [if_pos trivial, if_pos (by omega), if_pos (by omega), hrd]) ?_
          refine Ev.bind (trailer_ev _ l htl hil) (f := fun j t172 => ((if t172 = 0 then (if left = true then (arrearsref20_Parse.j2 j k true d n l) else (arrearsref20_Parse.j2 j k (decide ((wrap64 ((k : Int) + 1)) < (L.length : Int))) d n l)) else (some (0, 0, ([] : List (S50)), t172, (k : Int)))) : Option (Int × Int × List S50 × Int × Int))) ?_
          have ht : trlP xs l = if trlL (xs.take (eol xs)) l = 0 then .ok (xs.drop (eol xs + 1)) else .error (trlL (xs.take (eol xs)) l) := by
            unfold trlP trlL
            rw [nextP_line he]
            by_cases hk2 : lineOk (xs.take (eol xs)) 84 30 = true
            · simp only [hk2, if_true]
              split
              · simp
              · simp
            · simp only [hk2, if_false]; simp
          unfold endP
          rw [ht]
          by_cases h0 : trlL (xs.take (eol xs)) l = 0
          · simp only [h0, if_true]
            have hmore : (left = true ∨ k + 1 < L.length) ↔ xs.drop (eol xs + 1) ≠ [] := by
              have hlen : (L.drop (k + 1)).length = L.length - (k + 1) := List.length_drop
              rw [hD2] at hlen
              rw [hF]
              have h5 := linesP_eol (xs.drop (eol xs + 1)) []
              by_cases he2 : eol (xs.drop (eol xs + 1)) < (xs.drop (eol xs + 1)).length
              · rw [if_pos he2] at h5
                rw [h5] at hlen
                simp only [List.length_cons] at hlen
                constructor
                · intro _ hn; rw [hn] at he2; simp at he2
                · intro _; exact .inr (by omega)
              · rw [if_neg he2] at h5
                rw [h5] at hlen ⊢
                simp only [List.length_nil, List.nil_append, decide_eq_true_eq] at hlen ⊢
                constructor
                · rintro (h | h)
                  · exact h
                  · omega
                · intro h; exact .inl h
            have hj2 : ∀ c : Bool, (c = true ↔ xs.drop (eol xs + 1) ≠ []) → Ev (fun j => arrearsref20_Parse.j2 j k c d n l) (ans d n (if xs.drop (eol xs + 1) = [] then .ok l else .error (200, (k : Int) + 1))) := by
              intro c hc
              cases c with
              | true =>
                rw [if_neg (hc.1 rfl)]
                refine Ev.step (fun j => ?_) (Ev.now _)
                simp only [arrearsref20_Parse.j2]
                rw [if_pos trivial, wrI (i := (k : Int) + 1) (by omega) (by omega)]
                rfl
              | false =>
                have : xs.drop (eol xs + 1) = [] := Classical.byContradiction fun hn => by have := hc.2 hn; cases this
                rw [if_pos this]
                refine Ev.step (fun j => ?_) (Ev.now _)
                simp only [arrearsref20_Parse.j2]
                rfl
            by_cases hlf : left = true
            · simp only [hlf, if_true]
              exact hj2 true ⟨fun _ => hmore.1 (.inl hlf), fun _ => rfl⟩
            · simp only [hlf, if_false]
              refine hj2 _ ?_
              rw [decide_eq_true_eq, wrI (i := (k : Int) + 1) (by omega) (by omega), ← hmore]
              constructor
              · intro h; exact .inr (by omega)
              · rintro (h | h)
                · exact absurd h hlf
                · omega
          · simp only [h0, if_false]
            exact Ev.now _
        | false =>
          rw [← hb, if_neg (by simp)]
          refine Ev.step (f := fun j => (((arrearsref20_detail.f j (xs.take (eol xs)) k).bind fun bt174 => (if bt174.2.2 = 0 then (if l.length < 8796093022208 then (arrearsref20_Parse.l0 j L left (wrap64 ((k : Int) + 1)) d n (l ++ [(⟨bt174.1, bt174.2.1⟩ : S50)])) else (none)) else (some (0, 0, ([] : List (S50)), bt174.2.2, (k : Int))))) : Option (Int × Int × List S50 × Int × Int))) (fun j => by simp only [arrearsref20_Parse.j1]; rw [if_neg (by simp), if_pos (by omega), if_pos (by omega), hrd]) ?_
          refine Ev.bind (detail_ev _ k htl) (f := fun j bt174 => ((if bt174.2.2 = 0 then (if l.length < 8796093022208 then (arrearsref20_Parse.l0 j L left (wrap64 ((k : Int) + 1)) d n (l ++ [(⟨bt174.1, bt174.2.1⟩ : S50)])) else (none)) else (some (0, 0, ([] : List (S50)), bt174.2.2, (k : Int)))) : Option (Int × Int × List S50 × Int × Int))) ?_
          have hk9 : k ≤ 9999 := by
            have hb2 : brk xs (k : Int) = false := hb.symm
            simp only [brk, Bool.or_eq_false_iff, decide_eq_false_iff_not] at hb2
            omega
          have ht : detP xs k = if (detL (xs.take (eol xs)) k).2.2 = 0 then .ok (⟨(detL (xs.take (eol xs)) k).1, (detL (xs.take (eol xs)) k).2.1⟩, xs.drop (eol xs + 1)) else .error (detL (xs.take (eol xs)) k).2.2 := by
            unfold detP detL
            rw [nextP_line he]
            by_cases hk2 : lineOk (xs.take (eol xs)) 68 23 = true
            · simp only [hk2, if_true]
              split
              · simp
              · split
                · simp
                · split
                  · simp
                  · simp
            · simp only [hk2, if_false]; simp
          rw [ht]
          by_cases h0 : (detL (xs.take (eol xs)) k).2.2 = 0
          · simp only [h0, if_true]
            have e := ih (k + 1) (xs.drop (eol xs + 1)) (l ++ [(⟨(detL (xs.take (eol xs)) k).1, (detL (xs.take (eol xs)) k).2.1⟩ : S50)]) (by omega) (by omega) (by omega) (by simp; omega) (by omega) hD2 hF
            refine Ev.congr (fun j => ?_) e
            rw [if_pos (by omega : l.length < 8796093022208), wrI (i := (k : Int) + 1) (by omega) (by omega)]
            rfl
          · simp only [h0, if_false]
            exact Ev.now _
      refine Ev.step (f := fun j => arrearsref20_Parse.j1 j L left k (brk xs k) d n l) (fun j => ?_) (hj _ rfl)
      simp only [arrearsref20_Parse.l0]
      rw [if_pos (by omega)]
      by_cases h9 : (9999 : Int) < (k : Int)
      · have hbr : brk xs (k : Int) = true := by simp [brk, h9]
        rw [if_pos h9, hbr]
      · rw [if_neg h9]
        by_cases hk1 : (1 : Int) < (k : Int)
        · have hbr := brk_line hk1 (by omega) he
          rw [if_pos hk1, if_pos (by omega), hrd, hbr]
          by_cases h0 : 0 < (xs.take (eol xs)).length
          · rw [if_pos (by omega), if_pos (by omega), decide_eq_true h0, Bool.true_and]
          · rw [if_neg (by omega), decide_eq_false h0, Bool.false_and]
        · have hbr : brk xs (k : Int) = false := by
            have b1 : decide (9999 < (k : Int)) = false := decide_eq_false h9
            have b2 : decide (1 < (k : Int)) = false := decide_eq_false hk1
            simp [brk, b1, b2]
          rw [if_neg hk1, hbr]
    · have hlp := linesP_eol xs []
      rw [if_neg he] at hlp
      rw [hlp] at hD
      have hk : k = L.length := by
        have : (L.drop k).length = L.length - k := List.length_drop
        rw [hD] at this
        simp at this
        omega
      have hres : loopP (f + 1) xs k l = .error (200, (k : Int)) := by
        rw [loopP]
        by_cases hb : brk xs k = true
        · rw [if_pos hb]
          unfold endP trlP
          rw [nextP_off he]
        · rw [if_neg hb]
          unfold detP
          rw [nextP_off he]
      rw [hres]
      refine Ev.step (fun j => ?_) (Ev.now _)
      simp only [arrearsref20_Parse.l0]
      rw [if_neg (by omega)]
      simp only [ans, hk]
theorem lines_short : ∀ (xs cur : List Int), (linesP cur xs).1.length ≤ xs.length ∧ ∀ t ∈ (linesP cur xs).1, t.length ≤ cur.length + xs.length
  | [], cur => by simp [linesP]
  | x :: t, cur => by
    simp only [linesP]
    split
    · have h := lines_short t []
      refine ⟨by simp; exact h.1, fun s hs => ?_⟩
      rcases List.mem_cons.1 hs with rfl | hs
      · simp
      · have := h.2 s hs
        simp at this ⊢; omega
    · have h := lines_short t (cur ++ [x])
      refine ⟨by have := h.1; simp; omega, fun s hs => ?_⟩
      have := h.2 s hs
      simp at this ⊢; omega
theorem ref_ev (xs : List Int) (hl : xs.length ≤ 1000000000) : Ev (fun k => arrearsref20_Parse.f k xs) (parseP xs) := by
  have hs := lines_short xs []
  refine Ev.congr (f := fun k => ((arrearsref20_lines.f k xs).bind fun bt156 => (if (bt156.1.length : Int) = 0 then (some (0, 0, ([] : List (S50)), 200, 0)) else (if 0 < (bt156.1.length : Int) then ((arrearsref20_header.f k (rd_L3 bt156.1 0)).bind fun bt161 => (if bt161.2.2.2 = 0 then (arrearsref20_Parse.l0 k bt156.1 bt156.2 1 bt161.1 bt161.2.1 bt161.2.2.1) else (some (0, 0, ([] : List (S50)), bt161.2.2.2, 0)))) else (none))) : Option (Int × Int × List S50 × Int × Int))) (fun k => rfl) (Ev.bind (lines_ev xs (by omega)) ?_)
  have hlp := linesP_eol xs []
  by_cases he : eol xs < xs.length
  · rw [if_pos he] at hlp
    simp only [List.nil_append] at hlp
    have h0 : ¬ ((linesP [] xs).1.length : Int) = 0 := by rw [hlp]; simp; omega
    have h1 : 0 < ((linesP [] xs).1.length : Int) := by omega
    have hrd : rd_L3 (linesP [] xs).1 0 = xs.take (eol xs) := by rw [hlp]; rfl
    simp only [h0, if_false, h1, if_true, hrd]
    have hh : headP xs = (headL (xs.take (eol xs))).map fun dn => (dn, xs.drop (eol xs + 1)) := by
      unfold headP headL
      rw [nextP_line he]
      by_cases hk : lineOk (xs.take (eol xs)) 72 14 = true
      · simp only [hk, if_true, Option.bind_some, true_and]
        split
        · rfl
        · rfl
      · simp only [hk, if_false]; simp
    refine Ev.bind (header_ev (xs.take (eol xs)) (by rw [List.length_take]; omega)) (f := fun k bt161 => ((if bt161.2.2.2 = 0 then (arrearsref20_Parse.l0 k (linesP [] xs).1 (linesP [] xs).2 1 bt161.1 bt161.2.1 bt161.2.2.1) else (some (0, 0, ([] : List (S50)), bt161.2.2.2, 0))) : Option (Int × Int × List S50 × Int × Int))) ?_
    unfold parseP readP
    rw [hh]
    cases hx : headL (xs.take (eol xs)) with
    | none =>
      simp only [Option.map_none]
      refine Ev.congr (fun k => ?_) (Ev.now _)
      rw [if_neg (by decide)]
    | some dn =>
      obtain ⟨d, n⟩ := dn
      simp only [Option.map_some, if_true]
      have e := loop_ev (linesP [] xs).1 (linesP [] xs).2 d n (fun t ht => by have := hs.2 t ht; simp at this; omega) (by have := hs.1; omega) 10001 1 (xs.drop (eol xs + 1)) [] (by omega) (by omega) (by omega) rfl (by omega) (by rw [hlp]; rfl) (by rw [hlp])
      have ea : ans d n (loopP 10001 (xs.drop (eol xs + 1)) (1 : Nat) []) = (match (Except.map (fun l => ((d, n), l)) (loopP 10001 (xs.drop (eol xs + 1)) 1 [])) with | .ok ((d, n), l) => (d, n, l, 0, 0) | .error (c, k) => (0, 0, [], c, k)) := by
        cases loopP 10001 (xs.drop (eol xs + 1)) ((1 : Nat) : Int) [] with
        | ok l => rfl
        | error p => rfl
      rw [ea] at e
      exact e
  · rw [if_neg he] at hlp
    have h0 : ((linesP [] xs).1.length : Int) = 0 := by rw [hlp]; rfl
    simp only [h0, if_true]
    refine Ev.congr (fun k => ?_) (Ev.now _)
    unfold parseP readP headP
    rw [nextP_off he]
    rfl
end Go.Proofs.YtkjdmbbaacjpmaaDoor.Reads
end
section
namespace Go.Proofs.YtkjdmbbaacjpmaaDoor.R
open Go.RowKit Go.Proofs.YtkjdmbbaacjpmaaDoorW.PrintWords Go.Proofs.YtkjdmbbaacjpmaaDoorW.PrintLast
set_option linter.unusedVariables false
def bytB (l : List Int) : Bool := l.all fun x => decide (0 ≤ x ∧ x ≤ 255)
def AdrOk (A : Option Addr) (c : Nat) : Prop := A = none ∧ c = 0 ∨ ∃ b o, A = some ⟨b, o, none⟩
theorem adr_of_R {W : World} {base : Nat} {ok : Nat → Prop} {A : Option Addr} {n c : Nat} {xs : List Int} (h : Aside0 (Kd.R (Kd.int .u8) 5 W base ok (.slice A n c) xs)) : AdrOk A c := by
  obtain ⟨inner, ho⟩ := Kd.R_own h.out
  rcases ho.2 with ⟨h1, _⟩ | ⟨g, cap, cur, h1, _⟩
  · injection h1 with h1 h2 h3
    exact .inl ⟨h1, h3⟩
  · injection h1 with h1 h2 h3
    exact .inr ⟨g, 0, h1⟩
def lockbox_Parse.f (l0 : List Int) : Option (Int × Int × List S50 × Int × Int) := if l0.length ≤ 140737488351232 ∧ bytB l0 = true then some (Reader.parseP l0) else none
theorem lockbox_Parse.calls (A0 : Option Addr) (c0 : Nat) (l0 : List Int) (r1 : Int) (r2 : Int) (r3 : List (S50)) (r4 : Int) (r5 : Int) (w : World) (hr0 : Kd.C (Kd.int .u8) w A0 l0.length l0) (hc0 : l0.length ≤ c0) (h : lockbox_Parse.f l0 = some (r1, r2, r3, r4, r5)) (HA : AdrOk A0 c0 := by exact adr_of_R (by assumption)) (HT : Aside0 (Tab w) := by first | assumption | exact tab_auto (by assumption) (by repeat (first | (with_reducible first | (with_reducible exact Aside0.out (by assumption)) | apply below_alloc | apply pw_below_drewN | apply below_drew1) | (refine below_set ?_ (Aside0.out (by assumption))))) | exact tab_drawn (by assumption) _) :
    Calls Tryd.prog 24 #[.slice A0 l0.length c0] w fun e w' => ∃ v2_ : Value, e = .returned (.tuple #[.agg #[.int .i64 r1, .int .i64 r2, v2_], .int .i64 r4, .int .i64 r5]) ∧ Kd.R k50 50 w' w.heap.size (fun _ => True) v2_ r3 ∧ Below w.heap.size w w' := by
  unfold lockbox_Parse.f at h
  split at h
  case isFalse => cases h
  case isTrue hc =>
    have hp := Option.some.inj h
    refine (Reader.parse_calls A0 c0 l0 w ⟨hc0, hc.1, fun x hx => ?_, hr0, HA⟩ HT.out.tab HT.out.ety).mono ?_
    · have := (List.all_eq_true.1 hc.2) x hx
      simpa using this
    · rintro e w' ⟨v, he, hR, hb⟩
      rw [hp] at he hR
      exact ⟨v, he, hR, hb⟩
end Go.Proofs.YtkjdmbbaacjpmaaDoor.R
end
section
namespace Go.Proofs.YtkjdmbbaacjpmaaDoor.R
open Go.RowKit Go.Proofs.YtkjdmbbaacjpmaaDoorW.PrintWords Go.Proofs.YtkjdmbbaacjpmaaDoorW.PrintLast Go.Proofs.YtkjdmbbaacjpmaaDoorW.PrintMore
attribute [local go_sem] max2_int min2_int max_two min_two max_three min_three max_four min_four
set_option linter.unusedVariables false
set_option linter.unusedSimpArgs false
def arrearslaw19_CopyBytes.l0 : Nat → List Int → List Int → Int → Option (List Int)
  | 0, _, _, _ => none
  | k + 1, x0, x3, x4 => if x4 < (x0.length : Int) then (if 0 ≤ x4 then (if x3.length < 140737488355328 then (arrearslaw19_CopyBytes.l0 k x0 (x3 ++ [rd x0 x4]) (wrap64 (x4 + 1))) else (none)) else (none)) else (some x3)
def arrearslaw19_CopyBytes.f (k : Nat) (l0 : List Int) : Option (List Int) := arrearslaw19_CopyBytes.l0 k l0 ([] : List Int) 0
theorem arrearslaw19_CopyBytes.mono_l : ∀ k, (∀ y0 y1 y2, LeO (arrearslaw19_CopyBytes.l0 k y0 y1 y2) (arrearslaw19_CopyBytes.l0 (k + 1) y0 y1 y2))
  | 0 => fun _ _ _ r h => by simp [arrearslaw19_CopyBytes.l0] at h
  | k + 1 => by
    have ih0 := arrearslaw19_CopyBytes.mono_l k
    · intro y0 y1 y2
      unfold arrearslaw19_CopyBytes.l0
      repeat' first
      | (with_reducible exact ih0 _ _ _)
      | (with_reducible exact LeO.refl _)
      | (with_reducible exact LeO.none _)
      | (with_reducible refine LeO.ite ?_ ?_)
      | (with_reducible refine LeO.bind ?_ (fun _ => ?_))
      | exact ih0 _ _ _
      | exact LeO.none _
      | refine LeO.ite ?_ ?_
      | refine LeO.bind ?_ (fun _ => ?_)
theorem arrearslaw19_CopyBytes.mono : ∀ a0 k, LeO (arrearslaw19_CopyBytes.f k a0) (arrearslaw19_CopyBytes.f (k + 1) a0) := by
  intro a0 k
  have ih0 := arrearslaw19_CopyBytes.mono_l k
  unfold arrearslaw19_CopyBytes.f
  repeat' first
      | (with_reducible exact ih0 _ _ _)
      | (with_reducible exact LeO.refl _)
      | (with_reducible exact LeO.none _)
      | (with_reducible refine LeO.ite ?_ ?_)
      | (with_reducible refine LeO.bind ?_ (fun _ => ?_))
      | exact ih0 _ _ _
      | exact LeO.none _
      | refine LeO.ite ?_ ?_
      | refine LeO.bind ?_ (fun _ => ?_)
set_option maxHeartbeats 8000000 in
set_option maxRecDepth 100000 in
theorem arrearslaw19_CopyBytes.calls (k : Nat) (A0 : Option Addr) (c0 : Nat) (l0 : List Int) (r : List Int) (w : World) (hr0 : Kd.C (Kd.int .u8) w A0 l0.length l0) (hc0 : l0.length ≤ c0) (h : arrearslaw19_CopyBytes.f k l0 = some r) :
    Calls Tryd.prog 14 #[.slice A0 l0.length c0] w fun e w' => ∃ v0_ : Value, e = .returned (v0_) ∧ Kd.R (Kd.int .u8) 5 w' w.heap.size (fun _ => True) v0_ r ∧ Below w.heap.size w w' := by
  have HR0 := Aside0.mk hr0
  have HC0 := Aside0.mk hc0
  clear hr0 hc0
  have HB := Aside0.mk (Below.refl w.heap.size w)
  have H : (arrearslaw19_CopyBytes.l0 k l0 ([] : List Int) 0) = some r := h
  clear h
  have H' := Aside0.mk H
  clear H
  go_enter Tryd.func14, Tryd.ntmps14
  go_wp2
  go_loopg [3, 4] k (fun kq v3 v4 w' => ∃ (x3_1 : List Int) (x4_1 : Int), v4 = .int .i64 x4_1 ∧ Aside0 (arrearslaw19_CopyBytes.l0 kq l0 x3_1 x4_1 = some r) ∧ Aside0 (kq ≤ k) ∧ Aside0 (Kd.R (Kd.int .u8) 5 w' w.heap.size (fun _ => True) v3 x3_1) ∧ Aside0 (Below w.heap.size w w'))
  case atStart => exact ⟨(([] : List Int)), (0), (by first | rfl | (simp; done) | (simp [*]; done)), H', ⟨Nat.le_refl _⟩, ⟨by first | exact Kd.R_nil _ _ _ _ _ | exact Kd.N_nil _ _ _ _ _ | exact Kd.V_nil _ _ _ _ _ | exact Kd.Q_nil _ _ _ _ _ | exact Kd.S_nil _ _ _ _ _⟩, ⟨by repeat (first | (with_reducible first | exact HB.out | apply below_alloc | apply pw_below_drewN | apply below_drew1) | exact HB.out)⟩⟩
  case round =>
    clear H'
    try clear c1
    obtain ⟨x3_1, x4_1, rfl, HA, HK1, HO_3, HB⟩ := hrel
    cases gk with
    | zero => exact absurd HA.out (by simp [arrearslaw19_CopyBytes.l0])
    | succ k1 =>
      have H := HA.out
      clear HA
      simp only [arrearslaw19_CopyBytes.l0] at H
      by_cases c2 : x4_1 < (l0.length : Int)
      · rw [if_pos c2] at H
        have c2b0 : decide (x4_1 < (l0.length : Int)) = true := decide_eq_true c2
        clear c2
        by_cases c3 : 0 ≤ x4_1
        · rw [if_pos c3] at H
          have c3b0 : decide (0 ≤ x4_1) = true := decide_eq_true c3
          clear c3
          by_cases c4 : x3_1.length < 140737488355328
          · rw [if_pos c4] at H
            have LMc4 := Aside0.mk c4
            clear c4
            obtain ⟨y102, hy102⟩ : ∃ y_ : List Int, y_ = (x3_1 ++ [rd l0 x4_1]) := ⟨_, rfl⟩
            replace H : (arrearslaw19_CopyBytes.l0 k1 l0 y102 (wrap64 (x4_1 + 1))) = some r := by first | (rw [hy102]; with_reducible exact H) | (have H2_ := (Option.bind_some _ _).symm.trans H; rw [hy102]; with_reducible exact H2_) | (have H2_ := (Option.bind_some _ _).symm.trans H; with_reducible exact H2_) | with_reducible exact H | (rw [hy102]; exact H) | exact H
            have Ny102 := Aside0.mk hy102
            clear hy102
            have H' := Aside0.mk H
            clear H
            have p101 : 0 ≤ (x4_1 : Int) := of_decide_eq_true (by first | (with_reducible assumption) | assumption)
            have q101 : x4_1 < (l0.length : Int) := of_decide_eq_true (by first | (with_reducible assumption) | assumption)
            obtain ⟨ad101, e101, hx101_0⟩ := Kd.at_int HR0.out x4_1 p101 q101
            cases e101
            replace hx101_0 := (HB.out.cell (World.block_lt_of_cell? w _ hx101_0)).trans hx101_0
            replace p101 := eq_true p101
            replace q101 := eq_true q101
            go_wp2_with (first | ((with_reducible refine gate_builtin (b := .append) (xs := #[.tmp 11, .tmp 16]) rfl ?_); at_builtin; refine Kd.R_append (Kd.int .u8) (w0 := w) w.heap.size rfl (.tmp 11) (.tmp 16) 26 5 (.int .u8 0) 1 rfl Tryd.underlying26 info5 rfl (by decide) (by omega) u3 x3_1 (rd l0 x4_1) [.int .u8 (rd l0 x4_1)] (fun _ => True) (fun _ => False) rfl rfl ?aP (fun _ hk => hk.elim) ?aF ?aO ?aB ?aS ?aL ?_; (case aP => exact rfl); (case aB => exact (by repeat (first | (with_reducible first | exact HB.out | apply below_alloc | apply pw_below_drewN | apply below_drew1) | exact HB.out))); (case aF => exact (fun _ _ => trivial)); (case aO => exact (by (with_reducible repeat (first | apply Kd.R_alloc | apply Kd.R_drewN | apply Kd.R_drew)); exact HO_3.out)); (case aS => exact (below_size (by repeat (first | (with_reducible first | exact HB.out | apply below_alloc | apply pw_below_drewN | apply below_drew1) | exact HB.out)))); (case aL => have := LMc4.out; omega); intro v103 w5 ho hb hg hat; rw [← Ny102.out] at ho; have n0_ := Aside0.mk (hb); have n1_ := Aside0.mk (ho); clear HB; clear HO_3; have HB := n0_; have HO104 := n1_; clear n0_ n1_; clear ho hb hg hat))
            go_roundg k1
            case measure => have := HK1.out; omega
            case rel => exact ⟨(y102), (wrap64 (x4_1 + 1)), (by first | rfl | (simp; done) | (simp [*]; done)), H', ⟨by have := HK1.out; omega⟩, ⟨by (with_reducible repeat (first | apply Kd.R_alloc | apply Kd.R_drewN | apply Kd.R_drew)); exact HO104.out⟩, ⟨by repeat (first | (with_reducible first | exact HB.out | apply below_alloc | apply pw_below_drewN | apply below_drew1) | exact HB.out)⟩⟩
          · rw [if_neg c4] at H
            exact absurd H (by simp)
        · rw [if_neg c3] at H
          exact absurd H (by simp)
      · rw [if_neg c2] at H
        have c2b0 : decide (x4_1 < (l0.length : Int)) = false := decide_eq_false c2
        clear c2
        obtain rfl := Option.some.inj H
        go_wp2
        go_ret
        exact ⟨_, by first | rfl | (simp [errW_none, errW_some] <;> rfl) | (simp [*, errW_none, errW_some] <;> rfl), by (with_reducible repeat (first | apply Kd.R_alloc | apply Kd.R_drewN | apply Kd.R_drew)); exact HO_3.out, by repeat (first | (with_reducible first | exact HB.out | apply below_alloc | apply pw_below_drewN | apply below_drew1) | exact HB.out)⟩
end Go.Proofs.YtkjdmbbaacjpmaaDoor.R
end
section
namespace Go.Proofs.YtkjdmbbaacjpmaaDoor.R
open Go.RowKit Go.Proofs.YtkjdmbbaacjpmaaDoorW.PrintWords Go.Proofs.YtkjdmbbaacjpmaaDoorW.PrintLast Go.Proofs.YtkjdmbbaacjpmaaDoorW.PrintMore
attribute [local go_sem] max2_int min2_int max_two min_two max_three min_three max_four min_four
set_option linter.unusedVariables false
set_option linter.unusedSimpArgs false
theorem eqA50 (d : Nat) (w : World) (x0 y0 : Int) (x1 y1 : Int) :
    (Op.equalIn (d + 2) 50 (.agg #[.int .i64 x0, .int .i64 x1]) (.agg #[.int .i64 y0, .int .i64 y1])).run Tryd.prog w = .ok (x0 == y0 && (x1 == y1)) w := by
  refine eqA_of Tryd.underlying50 (by kernel_rfl) ?_
  refine eqf_cons (by rfl) (by go_simp; rfl) (by go_simp; rfl) (by go_simp) ?_
  exact eqf_last (by rfl) (by go_simp; rfl) (by go_simp; rfl) (by go_simp)
end Go.Proofs.YtkjdmbbaacjpmaaDoor.R
end
section
namespace Go.Proofs.YtkjdmbbaacjpmaaDoor.R
open Go.RowKit Go.Proofs.YtkjdmbbaacjpmaaDoorW.PrintWords Go.Proofs.YtkjdmbbaacjpmaaDoorW.PrintLast Go.Proofs.YtkjdmbbaacjpmaaDoorW.PrintMore
attribute [local go_sem] max2_int min2_int max_two min_two max_three min_three max_four min_four
set_option linter.unusedVariables false
set_option linter.unusedSimpArgs false
attribute [local go_sem high] eqA50
mutual
def arrearslaw20_sameBatch.j0 : Nat → Bool → Int → Int → List (S50) → Int → Int → List (S50) → Option (Bool)
  | 0, _, _, _, _, _, _, _ => none
  | k + 1, x26, x106000, x106001, x106002, x107000, x107001, x107002 => if x26 = true then (some false) else (arrearslaw20_sameBatch.l0 k 0 x106000 x106001 x106002 x107000 x107001 x107002)
def arrearslaw20_sameBatch.l0 : Nat → Int → Int → Int → List (S50) → Int → Int → List (S50) → Option (Bool)
  | 0, _, _, _, _, _, _, _ => none
  | k + 1, x5, x106000, x106001, x106002, x107000, x107001, x107002 => if x5 < (x106002.length : Int) then (if 0 ≤ x5 then (if x5 < (x107002.length : Int) then (if (!(((rd_T50 x106002 x5).f0) == ((rd_T50 x107002 x5).f0)) || (!(((rd_T50 x106002 x5).f1) == ((rd_T50 x107002 x5).f1)))) = true then (some false) else (arrearslaw20_sameBatch.l0 k (wrap64 (x5 + 1)) x106000 x106001 x106002 x107000 x107001 x107002)) else (none)) else (none)) else (some true)
end
def arrearslaw20_sameBatch.f (k : Nat) (a0_0 : Int) (a0_1 : Int) (l0_2 : List (S50)) (a1_0 : Int) (a1_1 : Int) (l1_2 : List (S50)) : Option (Bool) := if a0_0 = a1_0 then (if a0_1 = a1_1 then (arrearslaw20_sameBatch.j0 k ((l0_2.length : Int) != (l1_2.length : Int)) a0_0 a0_1 l0_2 a1_0 a1_1 l1_2) else (arrearslaw20_sameBatch.j0 k true a0_0 a0_1 l0_2 a1_0 a1_1 l1_2)) else (arrearslaw20_sameBatch.j0 k true a0_0 a0_1 l0_2 a1_0 a1_1 l1_2)
theorem arrearslaw20_sameBatch.mono_l : ∀ k, (∀ y0 y1 y2 y3 y4 y5 y6, LeO (arrearslaw20_sameBatch.j0 k y0 y1 y2 y3 y4 y5 y6) (arrearslaw20_sameBatch.j0 (k + 1) y0 y1 y2 y3 y4 y5 y6)) ∧ (∀ y0 y1 y2 y3 y4 y5 y6, LeO (arrearslaw20_sameBatch.l0 k y0 y1 y2 y3 y4 y5 y6) (arrearslaw20_sameBatch.l0 (k + 1) y0 y1 y2 y3 y4 y5 y6))
  | 0 => ⟨fun _ _ _ _ _ _ _ r h => by simp [arrearslaw20_sameBatch.j0] at h, fun _ _ _ _ _ _ _ r h => by simp [arrearslaw20_sameBatch.l0] at h⟩
  | k + 1 => by
    obtain ⟨ih0, ih1⟩ := arrearslaw20_sameBatch.mono_l k
    refine ⟨?_, ?_⟩
    · intro y0 y1 y2 y3 y4 y5 y6
      unfold arrearslaw20_sameBatch.j0
      repeat' first
      | (with_reducible exact ih0 _ _ _ _ _ _ _)
      | (with_reducible exact ih1 _ _ _ _ _ _ _)
      | (with_reducible exact LeO.refl _)
      | (with_reducible exact LeO.none _)
      | (with_reducible refine LeO.ite ?_ ?_)
      | (with_reducible refine LeO.bind ?_ (fun _ => ?_))
      | exact ih0 _ _ _ _ _ _ _
      | exact ih1 _ _ _ _ _ _ _
      | exact LeO.none _
      | refine LeO.ite ?_ ?_
      | refine LeO.bind ?_ (fun _ => ?_)
    · intro y0 y1 y2 y3 y4 y5 y6
      unfold arrearslaw20_sameBatch.l0
      repeat' first
      | (with_reducible exact ih0 _ _ _ _ _ _ _)
      | (with_reducible exact ih1 _ _ _ _ _ _ _)
      | (with_reducible exact LeO.refl _)
      | (with_reducible exact LeO.none _)
      | (with_reducible refine LeO.ite ?_ ?_)
      | (with_reducible refine LeO.bind ?_ (fun _ => ?_))
      | exact ih0 _ _ _ _ _ _ _
      | exact ih1 _ _ _ _ _ _ _
      | exact LeO.none _
      | refine LeO.ite ?_ ?_
      | refine LeO.bind ?_ (fun _ => ?_)
theorem arrearslaw20_sameBatch.mono : ∀ a0 a1 a2 a3 a4 a5 k, LeO (arrearslaw20_sameBatch.f k a0 a1 a2 a3 a4 a5) (arrearslaw20_sameBatch.f (k + 1) a0 a1 a2 a3 a4 a5) := by
  intro a0 a1 a2 a3 a4 a5 k
  obtain ⟨ih0, ih1⟩ := arrearslaw20_sameBatch.mono_l k
  unfold arrearslaw20_sameBatch.f
  repeat' first
      | (with_reducible exact ih0 _ _ _ _ _ _ _)
      | (with_reducible exact ih1 _ _ _ _ _ _ _)
      | (with_reducible exact LeO.refl _)
      | (with_reducible exact LeO.none _)
      | (with_reducible refine LeO.ite ?_ ?_)
      | (with_reducible refine LeO.bind ?_ (fun _ => ?_))
      | exact ih0 _ _ _ _ _ _ _
      | exact ih1 _ _ _ _ _ _ _
      | exact LeO.none _
      | refine LeO.ite ?_ ?_
      | refine LeO.bind ?_ (fun _ => ?_)
set_option maxHeartbeats 8000000 in
set_option maxRecDepth 100000 in
theorem arrearslaw20_sameBatch.calls (k : Nat) (a0_0 : Int) (a0_1 : Int) (A0_2 : Option Addr) (c0_2 : Nat) (l0_2 : List (S50)) (a1_0 : Int) (a1_1 : Int) (A1_2 : Option Addr) (c1_2 : Nat) (l1_2 : List (S50)) (r : Bool) (w : World) (hr0_2 : Kd.C k50 w A0_2 l0_2.length l0_2) (hc0_2 : l0_2.length ≤ c0_2) (hr1_2 : Kd.C k50 w A1_2 l1_2.length l1_2) (hc1_2 : l1_2.length ≤ c1_2) (h : arrearslaw20_sameBatch.f k a0_0 a0_1 l0_2 a1_0 a1_1 l1_2 = some r) :
    Calls Tryd.prog 19 #[.agg #[.int .i64 a0_0, .int .i64 a0_1, .slice A0_2 l0_2.length c0_2], .agg #[.int .i64 a1_0, .int .i64 a1_1, .slice A1_2 l1_2.length c1_2]] w fun e w' => e = .returned (.bool r) ∧ Below w.heap.size w w' := by
  have hu32 := Tryd.underlying32
  have hu50 := Tryd.underlying50
  have HR0_2 := Aside0.mk hr0_2
  have HC0_2 := Aside0.mk hc0_2
  clear hr0_2 hc0_2
  have HR1_2 := Aside0.mk hr1_2
  have HC1_2 := Aside0.mk hc1_2
  clear hr1_2 hc1_2
  have HB := Aside0.mk (Below.refl w.heap.size w)
  have H : (if a0_0 = a1_0 then (if a0_1 = a1_1 then (arrearslaw20_sameBatch.j0 k ((l0_2.length : Int) != (l1_2.length : Int)) a0_0 a0_1 l0_2 a1_0 a1_1 l1_2) else (arrearslaw20_sameBatch.j0 k true a0_0 a0_1 l0_2 a1_0 a1_1 l1_2)) else (arrearslaw20_sameBatch.j0 k true a0_0 a0_1 l0_2 a1_0 a1_1 l1_2)) = some r := h
  clear h
  have HC3 := Aside0.mk H
  clear H
  go_enter Tryd.func19, Tryd.ntmps19
  go_upto_region 1 with (first | ((with_reducible refine gate_dst (N := 2) rfl ?_); (try (refine gate_guard (by rfl) ?_; dsimp only)); refine box_event ?hg (N := 2) ?hd (cs := #[.int .i64 a0_0, .int .i64 a0_1, .slice A0_2 l0_2.length c0_2]) (t := 32) ?hr ?_; (case hd => rfl); (case hg => rfl); (case hr => first | (go_simp; done) | (go_simp; rfl)); intro gb105 hg w4 hbox hb; have n0_ := Aside0.mk (below_step (by repeat (first | (with_reducible first | exact HB.out | apply below_alloc | apply pw_below_drewN | apply below_drew1) | exact HB.out)) hb); have n1_ := Aside0.mk (hbox); have n2_ := Aside0.mk ((by rw [hg]; exact (below_size (by repeat (first | (with_reducible first | exact HB.out | apply below_alloc | apply pw_below_drewN | apply below_drew1) | exact HB.out))) : w.heap.size ≤ gb105)); have n3_ := Aside0.mk ((by rw [hg]; exact (below_size (by repeat (first | (with_reducible first | exact HB.out | apply below_alloc | apply pw_below_drewN | apply below_drew1) | exact HB.out))) : w.heap.size ≤ gb105)); clear HB; have HB := n0_; have BK105 := n1_; have GW105 := n2_; have GE105 := n3_; clear n0_ n1_ n2_ n3_; clear hb hbox hg) | ((with_reducible refine gate_dst (N := 3) rfl ?_); (try (refine gate_guard (by rfl) ?_; dsimp only)); refine box_event ?hg (N := 3) ?hd (cs := #[.int .i64 a1_0, .int .i64 a1_1, .slice A1_2 l1_2.length c1_2]) (t := 32) ?hr ?_; (case hd => rfl); (case hg => rfl); (case hr => first | (go_simp; done) | (go_simp; rfl)); intro gb106 hg w5 hbox hb; have n0_ := Aside0.mk (blk_below (g := gb105) (o := .cells #[.int .i64 a0_0, .int .i64 a0_1, .slice A0_2 l0_2.length c0_2] 32 (0, 0)) (by (with_reducible repeat (first | refine blk_drewN ?_ _ | refine blk_drew ?_ | refine blk_alloc ?_ _)); exact BK105.out) hb); have n1_ := Aside0.mk (below_step (by repeat (first | (with_reducible first | exact HB.out | apply below_alloc | apply pw_below_drewN | apply below_drew1 | refine below_set ?_ GE105.out) | exact HB.out)) hb); have n2_ := Aside0.mk (hbox); have n3_ := Aside0.mk ((by rw [hg]; exact (below_size (by repeat (first | (with_reducible first | exact HB.out | apply below_alloc | apply pw_below_drewN | apply below_drew1 | refine below_set ?_ GE105.out) | exact HB.out))) : w.heap.size ≤ gb106)); have n4_ := Aside0.mk ((by rw [hg]; exact (below_size (by repeat (first | (with_reducible first | exact HB.out | apply below_alloc | apply pw_below_drewN | apply below_drew1 | refine below_set ?_ GE105.out) | exact HB.out))) : w.heap.size ≤ gb106)); have n5_ := Aside0.mk ((by rw [hg]; exact Nat.ne_of_lt (blk_lt (g := gb105) (o := .cells #[.int .i64 a0_0, .int .i64 a0_1, .slice A0_2 l0_2.length c0_2] 32 (0, 0)) (by (with_reducible repeat (first | refine blk_drewN ?_ _ | refine blk_drew ?_ | refine blk_alloc ?_ _)); exact BK105.out)) : gb105 ≠ gb106)); have n6_ := Aside0.mk ((by rw [hg]; exact Nat.ne_of_gt (blk_lt (g := gb105) (o := .cells #[.int .i64 a0_0, .int .i64 a0_1, .slice A0_2 l0_2.length c0_2] 32 (0, 0)) (by (with_reducible repeat (first | refine blk_drewN ?_ _ | refine blk_drew ?_ | refine blk_alloc ?_ _)); exact BK105.out)) : gb106 ≠ gb105)); clear BK105; clear HB; have BK105 := n0_; have HB := n1_; have BK106 := n2_; have GW106 := n3_; have GE106 := n4_; have NB105_106 := n5_; have NB106_105 := n6_; clear n0_ n1_ n2_ n3_ n4_ n5_ n6_; clear hb hbox hg))
  repeat (go_quiet (first | ((with_reducible refine gate_dst (N := 2) rfl ?_); (try (refine gate_guard (by rfl) ?_; dsimp only)); refine box_event ?hg (N := 2) ?hd (cs := #[.int .i64 a0_0, .int .i64 a0_1, .slice A0_2 l0_2.length c0_2]) (t := 32) ?hr ?_; (case hd => rfl); (case hg => rfl); (case hr => first | (go_simp; done) | (go_simp; rfl)); intro gb105 hg w4 hbox hb; have n0_ := Aside0.mk (below_step (by repeat (first | (with_reducible first | exact HB.out | apply below_alloc | apply pw_below_drewN | apply below_drew1) | exact HB.out)) hb); have n1_ := Aside0.mk (hbox); have n2_ := Aside0.mk ((by rw [hg]; exact (below_size (by repeat (first | (with_reducible first | exact HB.out | apply below_alloc | apply pw_below_drewN | apply below_drew1) | exact HB.out))) : w.heap.size ≤ gb105)); have n3_ := Aside0.mk ((by rw [hg]; exact (below_size (by repeat (first | (with_reducible first | exact HB.out | apply below_alloc | apply pw_below_drewN | apply below_drew1) | exact HB.out))) : w.heap.size ≤ gb105)); clear HB; have HB := n0_; have BK105 := n1_; have GW105 := n2_; have GE105 := n3_; clear n0_ n1_ n2_ n3_; clear hb hbox hg) | ((with_reducible refine gate_dst (N := 3) rfl ?_); (try (refine gate_guard (by rfl) ?_; dsimp only)); refine box_event ?hg (N := 3) ?hd (cs := #[.int .i64 a1_0, .int .i64 a1_1, .slice A1_2 l1_2.length c1_2]) (t := 32) ?hr ?_; (case hd => rfl); (case hg => rfl); (case hr => first | (go_simp; done) | (go_simp; rfl)); intro gb106 hg w5 hbox hb; have n0_ := Aside0.mk (blk_below (g := gb105) (o := .cells #[.int .i64 a0_0, .int .i64 a0_1, .slice A0_2 l0_2.length c0_2] 32 (0, 0)) (by (with_reducible repeat (first | refine blk_drewN ?_ _ | refine blk_drew ?_ | refine blk_alloc ?_ _)); exact BK105.out) hb); have n1_ := Aside0.mk (below_step (by repeat (first | (with_reducible first | exact HB.out | apply below_alloc | apply pw_below_drewN | apply below_drew1 | refine below_set ?_ GE105.out) | exact HB.out)) hb); have n2_ := Aside0.mk (hbox); have n3_ := Aside0.mk ((by rw [hg]; exact (below_size (by repeat (first | (with_reducible first | exact HB.out | apply below_alloc | apply pw_below_drewN | apply below_drew1 | refine below_set ?_ GE105.out) | exact HB.out))) : w.heap.size ≤ gb106)); have n4_ := Aside0.mk ((by rw [hg]; exact (below_size (by repeat (first | (with_reducible first | exact HB.out | apply below_alloc | apply pw_below_drewN | apply below_drew1 | refine below_set ?_ GE105.out) | exact HB.out))) : w.heap.size ≤ gb106)); have n5_ := Aside0.mk ((by rw [hg]; exact Nat.ne_of_lt (blk_lt (g := gb105) (o := .cells #[.int .i64 a0_0, .int .i64 a0_1, .slice A0_2 l0_2.length c0_2] 32 (0, 0)) (by (with_reducible repeat (first | refine blk_drewN ?_ _ | refine blk_drew ?_ | refine blk_alloc ?_ _)); exact BK105.out)) : gb105 ≠ gb106)); have n6_ := Aside0.mk ((by rw [hg]; exact Nat.ne_of_gt (blk_lt (g := gb105) (o := .cells #[.int .i64 a0_0, .int .i64 a0_1, .slice A0_2 l0_2.length c0_2] 32 (0, 0)) (by (with_reducible repeat (first | refine blk_drewN ?_ _ | refine blk_drew ?_ | refine blk_alloc ?_ _)); exact BK105.out)) : gb106 ≠ gb105)); clear BK105; clear HB; have BK105 := n0_; have HB := n1_; have BK106 := n2_; have GW106 := n3_; have GE106 := n4_; have NB105_106 := n5_; have NB106_105 := n6_; clear n0_ n1_ n2_ n3_ n4_ n5_ n6_; clear hb hbox hg)); go_upto_region 1 with (first | ((with_reducible refine gate_dst (N := 2) rfl ?_); (try (refine gate_guard (by rfl) ?_; dsimp only)); refine box_event ?hg (N := 2) ?hd (cs := #[.int .i64 a0_0, .int .i64 a0_1, .slice A0_2 l0_2.length c0_2]) (t := 32) ?hr ?_; (case hd => rfl); (case hg => rfl); (case hr => first | (go_simp; done) | (go_simp; rfl)); intro gb105 hg w4 hbox hb; have n0_ := Aside0.mk (below_step (by repeat (first | (with_reducible first | exact HB.out | apply below_alloc | apply pw_below_drewN | apply below_drew1) | exact HB.out)) hb); have n1_ := Aside0.mk (hbox); have n2_ := Aside0.mk ((by rw [hg]; exact (below_size (by repeat (first | (with_reducible first | exact HB.out | apply below_alloc | apply pw_below_drewN | apply below_drew1) | exact HB.out))) : w.heap.size ≤ gb105)); have n3_ := Aside0.mk ((by rw [hg]; exact (below_size (by repeat (first | (with_reducible first | exact HB.out | apply below_alloc | apply pw_below_drewN | apply below_drew1) | exact HB.out))) : w.heap.size ≤ gb105)); clear HB; have HB := n0_; have BK105 := n1_; have GW105 := n2_; have GE105 := n3_; clear n0_ n1_ n2_ n3_; clear hb hbox hg) | ((with_reducible refine gate_dst (N := 3) rfl ?_); (try (refine gate_guard (by rfl) ?_; dsimp only)); refine box_event ?hg (N := 3) ?hd (cs := #[.int .i64 a1_0, .int .i64 a1_1, .slice A1_2 l1_2.length c1_2]) (t := 32) ?hr ?_; (case hd => rfl); (case hg => rfl); (case hr => first | (go_simp; done) | (go_simp; rfl)); intro gb106 hg w5 hbox hb; have n0_ := Aside0.mk (blk_below (g := gb105) (o := .cells #[.int .i64 a0_0, .int .i64 a0_1, .slice A0_2 l0_2.length c0_2] 32 (0, 0)) (by (with_reducible repeat (first | refine blk_drewN ?_ _ | refine blk_drew ?_ | refine blk_alloc ?_ _)); exact BK105.out) hb); have n1_ := Aside0.mk (below_step (by repeat (first | (with_reducible first | exact HB.out | apply below_alloc | apply pw_below_drewN | apply below_drew1 | refine below_set ?_ GE105.out) | exact HB.out)) hb); have n2_ := Aside0.mk (hbox); have n3_ := Aside0.mk ((by rw [hg]; exact (below_size (by repeat (first | (with_reducible first | exact HB.out | apply below_alloc | apply pw_below_drewN | apply below_drew1 | refine below_set ?_ GE105.out) | exact HB.out))) : w.heap.size ≤ gb106)); have n4_ := Aside0.mk ((by rw [hg]; exact (below_size (by repeat (first | (with_reducible first | exact HB.out | apply below_alloc | apply pw_below_drewN | apply below_drew1 | refine below_set ?_ GE105.out) | exact HB.out))) : w.heap.size ≤ gb106)); have n5_ := Aside0.mk ((by rw [hg]; exact Nat.ne_of_lt (blk_lt (g := gb105) (o := .cells #[.int .i64 a0_0, .int .i64 a0_1, .slice A0_2 l0_2.length c0_2] 32 (0, 0)) (by (with_reducible repeat (first | refine blk_drewN ?_ _ | refine blk_drew ?_ | refine blk_alloc ?_ _)); exact BK105.out)) : gb105 ≠ gb106)); have n6_ := Aside0.mk ((by rw [hg]; exact Nat.ne_of_gt (blk_lt (g := gb105) (o := .cells #[.int .i64 a0_0, .int .i64 a0_1, .slice A0_2 l0_2.length c0_2] 32 (0, 0)) (by (with_reducible repeat (first | refine blk_drewN ?_ _ | refine blk_drew ?_ | refine blk_alloc ?_ _)); exact BK105.out)) : gb106 ≠ gb105)); clear BK105; clear HB; have BK105 := n0_; have HB := n1_; have BK106 := n2_; have GW106 := n3_; have GE106 := n4_; have NB105_106 := n5_; have NB106_105 := n6_; clear n0_ n1_ n2_ n3_ n4_ n5_ n6_; clear hb hbox hg)))
  (try simp only [Act.put, List.setIfInBounds_toArray, List.set_cons_zero, List.set_cons_succ])
  go_cut [26] (fun v26 wc => ∃ (kq : Nat) (x26_2 : Bool), v26 = .bool x26_2 ∧ Aside0 (arrearslaw20_sameBatch.j0 kq x26_2 a0_0 a0_1 l0_2 a1_0 a1_1 l1_2 = some r) ∧ Aside0 (kq ≤ k) ∧ Aside0 (wc.heap[gb105]? = some (.cells #[.int .i64 a0_0, .int .i64 a0_1, (.slice A0_2 l0_2.length c0_2)] 32 (0, 0))) ∧ Aside0 (wc.heap[gb106]? = some (.cells #[.int .i64 a1_0, .int .i64 a1_1, (.slice A1_2 l1_2.length c1_2)] 32 (0, 0))) ∧ Aside0 (Below w.heap.size w wc))
  case first =>
    have H := HC3.out
    clear HC3
    by_cases c6 : a0_0 = a1_0
    · rw [if_pos c6] at H
      have c6b0 : (a0_0 == a1_0) = true := beq_iff_eq.mpr c6
      have c6b1 : (a0_0 != a1_0) = false := bne_eq_false_iff_eq.mpr c6
      clear c6
      (first | rw [c6b0] | (simp only [i64_w, i32_w]; rw [c6b0]) | skip)
      by_cases c7 : a0_1 = a1_1
      · rw [if_pos c7] at H
        have c7b0 : (a0_1 == a1_1) = true := beq_iff_eq.mpr c7
        have c7b1 : (a0_1 != a1_1) = false := bne_eq_false_iff_eq.mpr c7
        clear c7
        have H' := Aside0.mk H
        clear H
        have hnb8 := NB105_106.out
        have hnc8 := NB106_105.out
        have hcz9_0 : w5.cell? ⟨gb105, 0, none⟩ = some (.int .i64 a0_0) := (blk_cell BK105.out 0).trans rfl
        have hcz9_1 : w5.cell? ⟨gb105, 1, none⟩ = some (.int .i64 a0_1) := (blk_cell BK105.out 1).trans rfl
        have hcz9_2 : w5.cell? ⟨gb105, 2, none⟩ = some (.slice A0_2 l0_2.length c0_2) := (blk_cell BK105.out 2).trans rfl
        have hfz9_0 := blk_frozen BK105.out 0
        have hfz9_1 := blk_frozen BK105.out 1
        have hfz9_2 := blk_frozen BK105.out 2
        have hcz10_0 : w5.cell? ⟨gb106, 0, none⟩ = some (.int .i64 a1_0) := (blk_cell BK106.out 0).trans rfl
        have hcz10_1 : w5.cell? ⟨gb106, 1, none⟩ = some (.int .i64 a1_1) := (blk_cell BK106.out 1).trans rfl
        have hcz10_2 : w5.cell? ⟨gb106, 2, none⟩ = some (.slice A1_2 l1_2.length c1_2) := (blk_cell BK106.out 2).trans rfl
        have hfz10_0 := blk_frozen BK106.out 0
        have hfz10_1 := blk_frozen BK106.out 1
        have hfz10_2 := blk_frozen BK106.out 2
        go_wp2
        repeat (go_quiet (fail); try go_wp2)
        go_meet
        case rel => exact ⟨_, (((l0_2.length : Int) != (l1_2.length : Int))), (by first | rfl | (simp; done) | (simp [*]; done)), H', ⟨by first | omega | exact Nat.le_refl _⟩, ⟨by (with_reducible repeat (first | refine blk_drewN ?_ _ | refine blk_drew ?_ | refine blk_alloc ?_ _)); exact BK105.out⟩, ⟨by (with_reducible repeat (first | refine blk_drewN ?_ _ | refine blk_drew ?_ | refine blk_alloc ?_ _)); exact BK106.out⟩, ⟨by repeat (first | (with_reducible first | exact HB.out | apply below_alloc | apply pw_below_drewN | apply below_drew1 | refine below_set ?_ GE105.out | refine below_set ?_ GE106.out) | exact HB.out)⟩⟩
      · rw [if_neg c7] at H
        have c7b0 : (a0_1 == a1_1) = false := beq_eq_false_iff_ne.mpr c7
        have c7b1 : (a0_1 != a1_1) = true := bne_iff_ne.mpr c7
        have H' := Aside0.mk H
        clear H
        have hnb11 := NB105_106.out
        have hnc11 := NB106_105.out
        have hcz12_0 : w5.cell? ⟨gb105, 0, none⟩ = some (.int .i64 a0_0) := (blk_cell BK105.out 0).trans rfl
        have hcz12_1 : w5.cell? ⟨gb105, 1, none⟩ = some (.int .i64 a0_1) := (blk_cell BK105.out 1).trans rfl
        have hcz12_2 : w5.cell? ⟨gb105, 2, none⟩ = some (.slice A0_2 l0_2.length c0_2) := (blk_cell BK105.out 2).trans rfl
        have hfz12_0 := blk_frozen BK105.out 0
        have hfz12_1 := blk_frozen BK105.out 1
        have hfz12_2 := blk_frozen BK105.out 2
        have hcz13_0 : w5.cell? ⟨gb106, 0, none⟩ = some (.int .i64 a1_0) := (blk_cell BK106.out 0).trans rfl
        have hcz13_1 : w5.cell? ⟨gb106, 1, none⟩ = some (.int .i64 a1_1) := (blk_cell BK106.out 1).trans rfl
        have hcz13_2 : w5.cell? ⟨gb106, 2, none⟩ = some (.slice A1_2 l1_2.length c1_2) := (blk_cell BK106.out 2).trans rfl
        have hfz13_0 := blk_frozen BK106.out 0
        have hfz13_1 := blk_frozen BK106.out 1
        have hfz13_2 := blk_frozen BK106.out 2
        go_wp2
        repeat (go_quiet (fail); try go_wp2)
        go_meet
        case rel => exact ⟨_, (true), (by first | rfl | (simp; done) | (simp [*]; done)), H', ⟨by first | omega | exact Nat.le_refl _⟩, ⟨by (with_reducible repeat (first | refine blk_drewN ?_ _ | refine blk_drew ?_ | refine blk_alloc ?_ _)); exact BK105.out⟩, ⟨by (with_reducible repeat (first | refine blk_drewN ?_ _ | refine blk_drew ?_ | refine blk_alloc ?_ _)); exact BK106.out⟩, ⟨by repeat (first | (with_reducible first | exact HB.out | apply below_alloc | apply pw_below_drewN | apply below_drew1 | refine below_set ?_ GE105.out | refine below_set ?_ GE106.out) | exact HB.out)⟩⟩
    · rw [if_neg c6] at H
      have c6b0 : (a0_0 == a1_0) = false := beq_eq_false_iff_ne.mpr c6
      have c6b1 : (a0_0 != a1_0) = true := bne_iff_ne.mpr c6
      (first | rw [c6b0] | (simp only [i64_w, i32_w]; rw [c6b0]) | skip)
      have H' := Aside0.mk H
      clear H
      have hnb14 := NB105_106.out
      have hnc14 := NB106_105.out
      have hcz15_0 : w5.cell? ⟨gb105, 0, none⟩ = some (.int .i64 a0_0) := (blk_cell BK105.out 0).trans rfl
      have hcz15_1 : w5.cell? ⟨gb105, 1, none⟩ = some (.int .i64 a0_1) := (blk_cell BK105.out 1).trans rfl
      have hcz15_2 : w5.cell? ⟨gb105, 2, none⟩ = some (.slice A0_2 l0_2.length c0_2) := (blk_cell BK105.out 2).trans rfl
      have hfz15_0 := blk_frozen BK105.out 0
      have hfz15_1 := blk_frozen BK105.out 1
      have hfz15_2 := blk_frozen BK105.out 2
      have hcz16_0 : w5.cell? ⟨gb106, 0, none⟩ = some (.int .i64 a1_0) := (blk_cell BK106.out 0).trans rfl
      have hcz16_1 : w5.cell? ⟨gb106, 1, none⟩ = some (.int .i64 a1_1) := (blk_cell BK106.out 1).trans rfl
      have hcz16_2 : w5.cell? ⟨gb106, 2, none⟩ = some (.slice A1_2 l1_2.length c1_2) := (blk_cell BK106.out 2).trans rfl
      have hfz16_0 := blk_frozen BK106.out 0
      have hfz16_1 := blk_frozen BK106.out 1
      have hfz16_2 := blk_frozen BK106.out 2
      go_wp2
      repeat (go_quiet (fail); try go_wp2)
      go_meet
      case rel => exact ⟨_, (true), (by first | rfl | (simp; done) | (simp [*]; done)), H', ⟨by first | omega | exact Nat.le_refl _⟩, ⟨by (with_reducible repeat (first | refine blk_drewN ?_ _ | refine blk_drew ?_ | refine blk_alloc ?_ _)); exact BK105.out⟩, ⟨by (with_reducible repeat (first | refine blk_drewN ?_ _ | refine blk_drew ?_ | refine blk_alloc ?_ _)); exact BK106.out⟩, ⟨by repeat (first | (with_reducible first | exact HB.out | apply below_alloc | apply pw_below_drewN | apply below_drew1 | refine below_set ?_ GE105.out | refine below_set ?_ GE106.out) | exact HB.out)⟩⟩
  case rest =>
    clear HC3
    try clear c1
    try clear p2
    try clear c6
    try clear c6b0
    try clear c6b1
    try clear c7
    try clear c7b0
    try clear c7b1
    try clear c8
    try clear c11
    try clear c14
    try clear hcz10_0
    try clear hcz10_1
    try clear hcz10_2
    try clear hcz12_0
    try clear hcz12_1
    try clear hcz12_2
    try clear hcz13_0
    try clear hcz13_1
    try clear hcz13_2
    try clear hcz15_0
    try clear hcz15_1
    try clear hcz15_2
    try clear hcz16_0
    try clear hcz16_1
    try clear hcz16_2
    try clear hcz9_0
    try clear hcz9_1
    try clear hcz9_2
    try clear hfz10_0
    try clear hfz10_1
    try clear hfz10_2
    try clear hfz12_0
    try clear hfz12_1
    try clear hfz12_2
    try clear hfz13_0
    try clear hfz13_1
    try clear hfz13_2
    try clear hfz15_0
    try clear hfz15_1
    try clear hfz15_2
    try clear hfz16_0
    try clear hfz16_1
    try clear hfz16_2
    try clear hfz9_0
    try clear hfz9_1
    try clear hfz9_2
    obtain ⟨kq, x26_2, rfl, HA, HJ2, BK105, BK106, HB⟩ := hcut
    cases kq with
    | zero => exact absurd HA.out (by simp [arrearslaw20_sameBatch.j0])
    | succ kj2 =>
      have H := HA.out
      clear HA
      simp only [arrearslaw20_sameBatch.j0] at H
      by_cases c17 : x26_2 = true
      · subst c17
        have H1 : (some false) = some r := by rw [if_pos rfl] at H; exact H
        clear H
        have H := H1
        clear H1
        obtain rfl := Option.some.inj H
        go_wp2
        repeat (go_quiet (fail); try go_wp2)
        go_ret
        exact ⟨by first | rfl | (simp [errW_none, errW_some] <;> rfl) | (simp [*, errW_none, errW_some] <;> rfl), by repeat (first | (with_reducible first | exact HB.out | apply below_alloc | apply pw_below_drewN | apply below_drew1 | refine below_set ?_ GE105.out | refine below_set ?_ GE106.out) | exact HB.out)⟩
      · replace c17 := Bool.eq_false_iff.mpr c17
        subst c17
        have H1 : (arrearslaw20_sameBatch.l0 kj2 0 a0_0 a0_1 l0_2 a1_0 a1_1 l1_2) = some r := by rw [if_neg (show ¬ (false = true) by decide)] at H; exact H
        clear H
        have H := H1
        clear H1
        have H' := Aside0.mk H
        clear H
        go_wp2
        repeat (go_quiet (fail); try go_wp2)
        go_loopg [5] kj2 (fun kq v5 w' => ∃ (x5_2 : Int), v5 = .int .i64 x5_2 ∧ Aside0 (arrearslaw20_sameBatch.l0 kq x5_2 a0_0 a0_1 l0_2 a1_0 a1_1 l1_2 = some r) ∧ Aside0 (kq ≤ kj2) ∧ Aside0 (w'.heap[gb105]? = some (.cells #[.int .i64 a0_0, .int .i64 a0_1, (.slice A0_2 l0_2.length c0_2)] 32 (0, 0))) ∧ Aside0 (w'.heap[gb106]? = some (.cells #[.int .i64 a1_0, .int .i64 a1_1, (.slice A1_2 l1_2.length c1_2)] 32 (0, 0))) ∧ Aside0 (Below w.heap.size w w'))
        case atStart => exact ⟨(0), (by first | rfl | (simp; done) | (simp [*]; done)), H', ⟨Nat.le_refl _⟩, ⟨by (with_reducible repeat (first | refine blk_drewN ?_ _ | refine blk_drew ?_ | refine blk_alloc ?_ _)); exact BK105.out⟩, ⟨by (with_reducible repeat (first | refine blk_drewN ?_ _ | refine blk_drew ?_ | refine blk_alloc ?_ _)); exact BK106.out⟩, ⟨by repeat (first | (with_reducible first | exact HB.out | apply below_alloc | apply pw_below_drewN | apply below_drew1 | refine below_set ?_ GE105.out | refine below_set ?_ GE106.out) | exact HB.out)⟩⟩
        case round =>
          clear H'
          try clear c1
          try clear p2
          try clear c6
          try clear c6b0
          try clear c6b1
          try clear c7
          try clear c7b0
          try clear c7b1
          try clear c8
          try clear c11
          try clear c14
          try clear c17
          try clear hcz10_0
          try clear hcz10_1
          try clear hcz10_2
          try clear hcz12_0
          try clear hcz12_1
          try clear hcz12_2
          try clear hcz13_0
          try clear hcz13_1
          try clear hcz13_2
          try clear hcz15_0
          try clear hcz15_1
          try clear hcz15_2
          try clear hcz16_0
          try clear hcz16_1
          try clear hcz16_2
          try clear hcz9_0
          try clear hcz9_1
          try clear hcz9_2
          try clear hfz10_0
          try clear hfz10_1
          try clear hfz10_2
          try clear hfz12_0
          try clear hfz12_1
          try clear hfz12_2
          try clear hfz13_0
          try clear hfz13_1
          try clear hfz13_2
          try clear hfz15_0
          try clear hfz15_1
          try clear hfz15_2
          try clear hfz16_0
          try clear hfz16_1
          try clear hfz16_2
          try clear hfz9_0
          try clear hfz9_1
          try clear hfz9_2
          try clear p2
          obtain ⟨x5_2, rfl, HA, HK2, BK105, BK106, HB⟩ := hrel
          cases gk with
          | zero => exact absurd HA.out (by simp [arrearslaw20_sameBatch.l0])
          | succ k2 =>
            have H := HA.out
            clear HA
            simp only [arrearslaw20_sameBatch.l0] at H
            by_cases c18 : x5_2 < (l0_2.length : Int)
            · rw [if_pos c18] at H
              have c18b0 : decide (x5_2 < (l0_2.length : Int)) = true := decide_eq_true c18
              clear c18
              by_cases c19 : 0 ≤ x5_2
              · rw [if_pos c19] at H
                have c19b0 : decide (0 ≤ x5_2) = true := decide_eq_true c19
                clear c19
                by_cases c20 : x5_2 < (l1_2.length : Int)
                · rw [if_pos c20] at H
                  have c20b0 : decide (x5_2 < (l1_2.length : Int)) = true := decide_eq_true c20
                  clear c20
                  by_cases c21 : (!(((rd_T50 l0_2 x5_2).f0) == ((rd_T50 l1_2 x5_2).f0)) || (!(((rd_T50 l0_2 x5_2).f1) == ((rd_T50 l1_2 x5_2).f1)))) = true
                  · rw [if_pos c21] at H
                    have c21b0 : (!(((rd_T50 l0_2 x5_2).f0) == ((rd_T50 l1_2 x5_2).f0)) || (!(((rd_T50 l0_2 x5_2).f1) == ((rd_T50 l1_2 x5_2).f1)))) = true := c21
                    clear c21
                    obtain rfl := Option.some.inj H
                    have hnb22 := NB105_106.out
                    have hnc22 := NB106_105.out
                    have hcz23_0 : wr.cell? ⟨gb105, 0, none⟩ = some (.int .i64 a0_0) := (blk_cell BK105.out 0).trans rfl
                    have hcz23_1 : wr.cell? ⟨gb105, 1, none⟩ = some (.int .i64 a0_1) := (blk_cell BK105.out 1).trans rfl
                    have hcz23_2 : wr.cell? ⟨gb105, 2, none⟩ = some (.slice A0_2 l0_2.length c0_2) := (blk_cell BK105.out 2).trans rfl
                    have hfz23_0 := blk_frozen BK105.out 0
                    have hfz23_1 := blk_frozen BK105.out 1
                    have hfz23_2 := blk_frozen BK105.out 2
                    have p107 : 0 ≤ (x5_2 : Int) := of_decide_eq_true (by first | (with_reducible assumption) | assumption)
                    have q107 : x5_2 < (l0_2.length : Int) := of_decide_eq_true (by first | (with_reducible assumption) | assumption)
                    obtain ⟨ad107, e107, hx107_0, hx107_1⟩ := at_T50 HR0_2.out x5_2 p107 q107
                    cases e107
                    replace hx107_0 := (HB.out.cell (World.block_lt_of_cell? w _ hx107_0)).trans hx107_0
                    replace hx107_1 := (HB.out.cell (World.block_lt_of_cell? w _ hx107_1)).trans hx107_1
                    replace p107 := eq_true p107
                    replace q107 := eq_true q107
                    have hcz24_0 : wr.cell? ⟨gb106, 0, none⟩ = some (.int .i64 a1_0) := (blk_cell BK106.out 0).trans rfl
                    have hcz24_1 : wr.cell? ⟨gb106, 1, none⟩ = some (.int .i64 a1_1) := (blk_cell BK106.out 1).trans rfl
                    have hcz24_2 : wr.cell? ⟨gb106, 2, none⟩ = some (.slice A1_2 l1_2.length c1_2) := (blk_cell BK106.out 2).trans rfl
                    have hfz24_0 := blk_frozen BK106.out 0
                    have hfz24_1 := blk_frozen BK106.out 1
                    have hfz24_2 := blk_frozen BK106.out 2
                    have p108 : 0 ≤ (x5_2 : Int) := of_decide_eq_true (by first | (with_reducible assumption) | assumption)
                    have q108 : x5_2 < (l1_2.length : Int) := of_decide_eq_true (by first | (with_reducible assumption) | assumption)
                    obtain ⟨ad108, e108, hx108_0, hx108_1⟩ := at_T50 HR1_2.out x5_2 p108 q108
                    cases e108
                    replace hx108_0 := (HB.out.cell (World.block_lt_of_cell? w _ hx108_0)).trans hx108_0
                    replace hx108_1 := (HB.out.cell (World.block_lt_of_cell? w _ hx108_1)).trans hx108_1
                    replace p108 := eq_true p108
                    replace q108 := eq_true q108
                    go_wp2
                    repeat (go_quiet (fail); try go_wp2)
                    go_ret
                    exact ⟨by first | rfl | (simp [errW_none, errW_some] <;> rfl) | (simp [*, errW_none, errW_some] <;> rfl), by repeat (first | (with_reducible first | exact HB.out | apply below_alloc | apply pw_below_drewN | apply below_drew1 | refine below_set ?_ GE105.out | refine below_set ?_ GE106.out) | exact HB.out)⟩
                  · rw [if_neg c21] at H
                    have c21b0 : (!(((rd_T50 l0_2 x5_2).f0) == ((rd_T50 l1_2 x5_2).f0)) || (!(((rd_T50 l0_2 x5_2).f1) == ((rd_T50 l1_2 x5_2).f1)))) = false := by simpa using c21
                    clear c21
                    have H' := Aside0.mk H
                    clear H
                    have hnb25 := NB105_106.out
                    have hnc25 := NB106_105.out
                    have hcz26_0 : wr.cell? ⟨gb105, 0, none⟩ = some (.int .i64 a0_0) := (blk_cell BK105.out 0).trans rfl
                    have hcz26_1 : wr.cell? ⟨gb105, 1, none⟩ = some (.int .i64 a0_1) := (blk_cell BK105.out 1).trans rfl
                    have hcz26_2 : wr.cell? ⟨gb105, 2, none⟩ = some (.slice A0_2 l0_2.length c0_2) := (blk_cell BK105.out 2).trans rfl
                    have hfz26_0 := blk_frozen BK105.out 0
                    have hfz26_1 := blk_frozen BK105.out 1
                    have hfz26_2 := blk_frozen BK105.out 2
                    have p107 : 0 ≤ (x5_2 : Int) := of_decide_eq_true (by first | (with_reducible assumption) | assumption)
                    have q107 : x5_2 < (l0_2.length : Int) := of_decide_eq_true (by first | (with_reducible assumption) | assumption)
                    obtain ⟨ad107, e107, hx107_0, hx107_1⟩ := at_T50 HR0_2.out x5_2 p107 q107
                    cases e107
                    replace hx107_0 := (HB.out.cell (World.block_lt_of_cell? w _ hx107_0)).trans hx107_0
                    replace hx107_1 := (HB.out.cell (World.block_lt_of_cell? w _ hx107_1)).trans hx107_1
                    replace p107 := eq_true p107
                    replace q107 := eq_true q107
                    have hcz27_0 : wr.cell? ⟨gb106, 0, none⟩ = some (.int .i64 a1_0) := (blk_cell BK106.out 0).trans rfl
                    have hcz27_1 : wr.cell? ⟨gb106, 1, none⟩ = some (.int .i64 a1_1) := (blk_cell BK106.out 1).trans rfl
                    have hcz27_2 : wr.cell? ⟨gb106, 2, none⟩ = some (.slice A1_2 l1_2.length c1_2) := (blk_cell BK106.out 2).trans rfl
                    have hfz27_0 := blk_frozen BK106.out 0
                    have hfz27_1 := blk_frozen BK106.out 1
                    have hfz27_2 := blk_frozen BK106.out 2
                    have p108 : 0 ≤ (x5_2 : Int) := of_decide_eq_true (by first | (with_reducible assumption) | assumption)
                    have q108 : x5_2 < (l1_2.length : Int) := of_decide_eq_true (by first | (with_reducible assumption) | assumption)
                    obtain ⟨ad108, e108, hx108_0, hx108_1⟩ := at_T50 HR1_2.out x5_2 p108 q108
                    cases e108
                    replace hx108_0 := (HB.out.cell (World.block_lt_of_cell? w _ hx108_0)).trans hx108_0
                    replace hx108_1 := (HB.out.cell (World.block_lt_of_cell? w _ hx108_1)).trans hx108_1
                    replace p108 := eq_true p108
                    replace q108 := eq_true q108
                    go_wp2
                    repeat (go_quiet (fail); try go_wp2)
                    go_roundg k2
                    case measure => have := HJ2.out; have := HK2.out; omega
                    case rel => exact ⟨(wrap64 (x5_2 + 1)), (by first | rfl | (simp; done) | (simp [*]; done)), H', ⟨by have := HJ2.out; have := HK2.out; omega⟩, ⟨by (with_reducible repeat (first | refine blk_drewN ?_ _ | refine blk_drew ?_ | refine blk_alloc ?_ _)); exact BK105.out⟩, ⟨by (with_reducible repeat (first | refine blk_drewN ?_ _ | refine blk_drew ?_ | refine blk_alloc ?_ _)); exact BK106.out⟩, ⟨by repeat (first | (with_reducible first | exact HB.out | apply below_alloc | apply pw_below_drewN | apply below_drew1 | refine below_set ?_ GE105.out | refine below_set ?_ GE106.out) | exact HB.out)⟩⟩
                · rw [if_neg c20] at H
                  exact absurd H (by simp)
              · rw [if_neg c19] at H
                exact absurd H (by simp)
            · rw [if_neg c18] at H
              have c18b0 : decide (x5_2 < (l0_2.length : Int)) = false := decide_eq_false c18
              clear c18
              obtain rfl := Option.some.inj H
              have hnb28 := NB105_106.out
              have hnc28 := NB106_105.out
              have hcz29_0 : wr.cell? ⟨gb105, 0, none⟩ = some (.int .i64 a0_0) := (blk_cell BK105.out 0).trans rfl
              have hcz29_1 : wr.cell? ⟨gb105, 1, none⟩ = some (.int .i64 a0_1) := (blk_cell BK105.out 1).trans rfl
              have hcz29_2 : wr.cell? ⟨gb105, 2, none⟩ = some (.slice A0_2 l0_2.length c0_2) := (blk_cell BK105.out 2).trans rfl
              have hfz29_0 := blk_frozen BK105.out 0
              have hfz29_1 := blk_frozen BK105.out 1
              have hfz29_2 := blk_frozen BK105.out 2
              go_wp2
              repeat (go_quiet (fail); try go_wp2)
              go_ret
              exact ⟨by first | rfl | (simp [errW_none, errW_some] <;> rfl) | (simp [*, errW_none, errW_some] <;> rfl), by repeat (first | (with_reducible first | exact HB.out | apply below_alloc | apply pw_below_drewN | apply below_drew1 | refine below_set ?_ GE105.out | refine below_set ?_ GE106.out) | exact HB.out)⟩
end Go.Proofs.YtkjdmbbaacjpmaaDoor.R
end
