-- Texts of this claim, joined and cut down to what it uses (a program of this session).
import Derived.Test.YtkjdmbbaacjpmaaDoorQ7
import Derived.LaidSub
import Derived.LaidLaws
import Derived.Lib.LaidTab
import Derived.Lib.SmallJoins
import Derived.Deep.Slices
import Derived.Deep.Fields
import Derived.ChangeSame
import Derived.ChangeSlices
import Derived.OpenShut
section
namespace Go.Proofs.YtkjdmbbaacjpmaaDoor.R
open Go.RowKit Go.Proofs.YtkjdmbbaacjpmaaDoorW.PrintWords Go.Proofs.YtkjdmbbaacjpmaaDoorW.PrintLast Go.Proofs.YtkjdmbbaacjpmaaDoorW.PrintMore
attribute [local go_sem] max2_int min2_int max_two min_two max_three min_three max_four min_four
set_option linter.unusedVariables false
set_option linter.unusedSimpArgs false
end Go.Proofs.YtkjdmbbaacjpmaaDoor.R
end
section
namespace Go.Proofs.YtkjdmbbaacjpmaaDoor.Round
open Go.RowKit Go.Proofs.YtkjdmbbaacjpmaaDoor.R Go.Proofs.YtkjdmbbaacjpmaaDoor.Scan Go.Proofs.YtkjdmbbaacjpmaaDoor.Reader Go.Proofs.YtkjdmbbaacjpmaaDoor.FmtR Go.Proofs.YtkjdmbbaacjpmaaDoor.Num Go.Proofs.YtkjdmbbaacjpmaaDoorW.PrintWords
open Go.Proofs.YtkjdmbbaacjpmaaDoor.Reads (rdN)
open Go.Proofs.YtkjdmbbaacjpmaaDoor.DDigits (wrN)
set_option linter.unusedVariables false
set_option linter.unusedSimpArgs false
theorem copy_ev (l : List Int) (hl : l.length ≤ 100000000) : Ev (fun k => arrearslaw19_CopyBytes.f k l) l := by
  have go : ∀ d i : Nat, i + d = l.length → Ev (fun k => arrearslaw19_CopyBytes.l0 k l (l.take i) i) l := by
    intro d
    induction d with
    | zero =>
      intro i h
      rw [List.take_of_length_le (by omega)]
      refine Ev.step (fun k => ?_) (Ev.now l)
      simp only [arrearslaw19_CopyBytes.l0]
      rw [if_neg (by omega)]
    | succ d ih =>
      intro i h
      have hi : i < l.length := by omega
      refine Ev.step (fun k => ?_) (ih (i + 1) (by omega))
      simp only [arrearslaw19_CopyBytes.l0]
      rw [if_pos (by omega), if_pos (by omega), if_pos (by rw [List.length_take]; omega), rdN l i hi, wrN i (by omega), List.take_succ_eq_append_getElem hi]
  exact Ev.congr (fun k => rfl) (go l.length 0 (by omega))
theorem sameBatch_self (dd n : Int) (l : List S50) (hl : l.length ≤ 100000) : Ev (fun k => arrearslaw20_sameBatch.f k dd n l dd n l) true := by
  have go : ∀ d i : Nat, i + d = l.length → Ev (fun k => arrearslaw20_sameBatch.l0 k i dd n l dd n l) true := by
    intro d
    induction d with
    | zero =>
      intro i h
      refine Ev.step (fun k => ?_) (Ev.now true)
      simp only [arrearslaw20_sameBatch.l0]
      rw [if_neg (by omega)]
    | succ d ih =>
      intro i h
      refine Ev.step (fun k => ?_) (ih (i + 1) (by omega))
      simp only [arrearslaw20_sameBatch.l0, beq_self_eq_true, Bool.not_true, Bool.or_false, Bool.false_eq_true, if_false]
      rw [if_pos (by omega), if_pos (by omega), if_pos (by omega), wrN i (by omega)]
  have h := go l.length 0 (by omega)
  have h2 : Ev (fun k => arrearslaw20_sameBatch.j0 k false dd n l dd n l) true := by
    refine Ev.step (fun k => ?_) h
    simp only [arrearslaw20_sameBatch.j0]
    rw [if_neg (by simp)]; rfl
  refine Ev.congr (fun k => ?_) h2
  show arrearslaw20_sameBatch.f k dd n l dd n l = _
  unfold arrearslaw20_sameBatch.f
  rw [if_pos rfl, if_pos rfl]
  simp
theorem byt_dig {l : List Int} (h : l.all isDig = true) : bytB l = true := by
  unfold bytB
  rw [List.all_eq_true] at *
  intro x hx
  have := h x hx
  simp only [isDig, decide_eq_true_eq] at this
  rw [decide_eq_true_eq]; omega
theorem byt_app (a b : List Int) : bytB (a ++ b) = (bytB a && bytB b) := List.all_append
theorem byt_dec (k : Nat) (x : Int) : bytB (dec k x) = true := byt_dig (dec_dig k x)
theorem byt_itls : ∀ (i : Nat) (l : List S50), bytB (itls i l) = true
  | _, [] => rfl
  | i, x :: t => by
    rw [itls, byt_app, byt_itls (i + 1) t, Bool.and_true]
    unfold itl
    simp only [byt_app, byt_dec, Bool.and_true]
    decide
theorem byt_fmt (d n : Int) (l : List S50) : bytB (fmt d n l) = true := by
  unfold fmt
  split
  · rw [byt_app, byt_app, byt_itls]
    unfold hdl trl
    simp only [byt_app, byt_dec, Bool.and_true]
    decide
  · rfl
theorem parse_f {l : List Int} (hl : l.length ≤ 100000000) (hb : bytB l = true) : lockbox_Parse.f l = some (parseP l) := by
  unfold lockbox_Parse.f; rw [if_pos ⟨by omega, hb⟩]
theorem round_j2 (x1 : List Int) (hl : x1.length ≤ 524288) (hb : bytB x1 = true) : Ev (fun k => arrearslaw20_LockboxRoundTrip.j2 k x1) true := by
  refine Ev.step (f := fun k => ((arrearslaw19_CopyBytes.f k x1).bind fun t378 => ((lockbox_Parse.f t378).bind fun bt381 => (if bt381.2.2.2.1 = 0 then ((lockbox_Format.f k bt381.1 bt381.2.1 bt381.2.2.1).bind fun bt388 => (if bt388.2 = true then ((arrearslaw19_SameBytes.f bt388.1 x1).bind fun t392 => (some t392)) else (some false))) else (some ((bt381.2.2.1.length : Int) == 0)))) : Option Bool)) (fun k => by simp only [arrearslaw20_LockboxRoundTrip.j2]) ?_
  refine Ev.bind (copy_ev x1 (by omega)) (f := fun k t378 => ((lockbox_Parse.f t378).bind fun bt381 => (if bt381.2.2.2.1 = 0 then ((lockbox_Format.f k bt381.1 bt381.2.1 bt381.2.2.1).bind fun bt388 => (if bt388.2 = true then ((arrearslaw19_SameBytes.f bt388.1 x1).bind fun t392 => (some t392)) else (some false))) else (some ((bt381.2.2.1.length : Int) == 0))) : Option Bool)) ?_
  rw [parse_f (by omega) hb]
  simp only [Option.bind_some]
  rcases parse_cases x1 with ⟨d, n, l, hp, hh, hf⟩ | ⟨c, k', hp, hc⟩
  · rw [hp]
    simp only [if_true]
    have hlen := fmt_len hh
    rw [hf] at hlen
    refine Ev.bind (format_ev d n l (by omega)) (f := fun _ bt388 => ((if bt388.2 = true then ((arrearslaw19_SameBytes.f bt388.1 x1).bind fun t392 => (some t392)) else (some false)) : Option Bool)) ?_
    refine Ev.congr (fun k => ?_) (Ev.now true)
    rw [hh, hf, if_pos rfl, same_f x1 (by omega)]
    rfl
  · rw [hp]
    simp only [hc, if_false]
    exact Ev.now true
theorem round_ev (d n : Int) (l : List S50) (x1 : List Int) (hb : bytB x1 = true) : Ev (fun k => arrearslaw20_LockboxRoundTrip.f k d n l x1) true := by
  have h1 : hasB 738000 1 [(⟨7, 5⟩ : S50)] = true := by decide
  have hf1 := fmt_len h1
  simp only [List.length_cons, List.length_nil] at hf1
  have hp1 := parse_fmt _ _ _ h1
  have hj1 : ∀ b : Bool, (b = true ∨ (x1.length ≤ 524288 ∧ l.length ≤ 10010)) → Ev (fun k => arrearslaw20_LockboxRoundTrip.j1 k x1 b d n l) true := by
    intro b hh
    cases b with
    | true => exact Ev.step (fun k => by simp only [arrearslaw20_LockboxRoundTrip.j1]; rfl) (Ev.now true)
    | false =>
      obtain ⟨hx, hl⟩ := hh.resolve_left (by simp)
      refine Ev.step (f := fun k => ((arrearslaw20_own.f d n l).bind fun bt358 => ((lockbox_Format.f k bt358.1 bt358.2.1 bt358.2.2).bind fun bt363 => (if bt363.2 = true then ((arrearslaw19_CopyBytes.f k bt363.1).bind fun t367 => ((lockbox_Parse.f t367).bind fun bt370 => (if bt370.2.2.2.1 = 0 then ((arrearslaw20_sameBatch.f k bt370.1 bt370.2.1 bt370.2.2.1 d n l).bind fun t377 => (if t377 = true then (arrearslaw20_LockboxRoundTrip.j2 k x1) else (some false))) else (some false)))) else (arrearslaw20_LockboxRoundTrip.j2 k x1))) : Option Bool)) (fun k => by simp only [arrearslaw20_LockboxRoundTrip.j1]; rfl) ?_
      rw [own_f d n l (by omega)]
      simp only [Option.bind_some]
      refine Ev.bind (format_ev d n l (by omega)) (f := fun k bt363 => ((if bt363.2 = true then ((arrearslaw19_CopyBytes.f k bt363.1).bind fun t367 => ((lockbox_Parse.f t367).bind fun bt370 => (if bt370.2.2.2.1 = 0 then ((arrearslaw20_sameBatch.f k bt370.1 bt370.2.1 bt370.2.2.1 d n l).bind fun t377 => (if t377 = true then (arrearslaw20_LockboxRoundTrip.j2 k x1) else (some false))) else (some false)))) else (arrearslaw20_LockboxRoundTrip.j2 k x1)) : Option Bool)) ?_
      cases hh2 : hasB d n l with
      | false =>
        simp only [Bool.false_eq_true, if_false]
        exact round_j2 x1 hx hb
      | true =>
        simp only [if_true]
        have hfl := fmt_length d n l
        refine Ev.bind (copy_ev (fmt d n l) (by omega)) (f := fun k t367 => (((lockbox_Parse.f t367).bind fun bt370 => (if bt370.2.2.2.1 = 0 then ((arrearslaw20_sameBatch.f k bt370.1 bt370.2.1 bt370.2.2.1 d n l).bind fun t377 => (if t377 = true then (arrearslaw20_LockboxRoundTrip.j2 k x1) else (some false))) else (some false))) : Option Bool)) ?_
        rw [parse_f (by omega) (byt_fmt d n l), parse_fmt d n l hh2]
        simp only [Option.bind_some, if_true]
        refine Ev.bind (sameBatch_self d n l (by omega)) (f := fun k t377 => ((if t377 = true then (arrearslaw20_LockboxRoundTrip.j2 k x1) else (some false)) : Option Bool)) ?_
        simp only [if_true]
        exact round_j2 x1 hx hb
  have hj0 : Ev (fun k => arrearslaw20_LockboxRoundTrip.j0 k x1 false d n l) true := by
    by_cases hx : (x1.length : Int) > 524288
    · refine Ev.step (f := fun k => arrearslaw20_LockboxRoundTrip.j1 k x1 true d n l) (fun k => ?_) (hj1 true (.inl rfl))
      simp only [arrearslaw20_LockboxRoundTrip.j0]
      rw [if_neg (by simp), if_pos hx]
    · refine Ev.step (f := fun k => arrearslaw20_LockboxRoundTrip.j1 k x1 (decide ((l.length : Int) > 10010)) d n l) (fun k => ?_) (hj1 _ ?_)
      · simp only [arrearslaw20_LockboxRoundTrip.j0]
        rw [if_neg (by simp), if_neg hx]
      · by_cases hl : (l.length : Int) > 10010
        · exact .inl (decide_eq_true hl)
        · exact .inr ⟨by omega, by omega⟩
  refine Ev.congr (f := fun k => ((lockbox_Format.f k 738000 1 [(⟨7, 5⟩ : S50)]).bind fun bt345 => ((lockbox_Parse.f bt345.1).bind fun bt349 => (if bt345.2 = true then (if bt349.2.2.2.1 = 0 then ((arrearslaw20_sameBatch.f k bt349.1 bt349.2.1 bt349.2.2.1 738000 1 [(⟨7, 5⟩ : S50)]).bind fun t357 => (arrearslaw20_LockboxRoundTrip.j0 k x1 (!t357) d n l)) else (arrearslaw20_LockboxRoundTrip.j0 k x1 true d n l)) else (arrearslaw20_LockboxRoundTrip.j0 k x1 true d n l))) : Option Bool)) (fun k => ?_) ?_
  · show arrearslaw20_LockboxRoundTrip.f k d n l x1 = _
    unfold arrearslaw20_LockboxRoundTrip.f
    simp only [Option.bind_some]
    rw [own_f 738000 1 _ (by simp)]
    simp only [Option.bind_some]
  · refine Ev.bind (format_ev 738000 1 [(⟨7, 5⟩ : S50)] (by simp)) (f := fun k bt345 => (((lockbox_Parse.f bt345.1).bind fun bt349 => (if bt345.2 = true then (if bt349.2.2.2.1 = 0 then ((arrearslaw20_sameBatch.f k bt349.1 bt349.2.1 bt349.2.2.1 738000 1 [(⟨7, 5⟩ : S50)]).bind fun t357 => (arrearslaw20_LockboxRoundTrip.j0 k x1 (!t357) d n l)) else (arrearslaw20_LockboxRoundTrip.j0 k x1 true d n l)) else (arrearslaw20_LockboxRoundTrip.j0 k x1 true d n l))) : Option Bool)) ?_
    simp only
    rw [parse_f (by omega) (byt_fmt _ _ _), hp1, h1]
    simp only [Option.bind_some, if_true]
    exact Ev.bind (sameBatch_self 738000 1 [(⟨7, 5⟩ : S50)] (by simp)) (f := fun k t357 => arrearslaw20_LockboxRoundTrip.j0 k x1 (!t357) d n l) hj0
end Go.Proofs.YtkjdmbbaacjpmaaDoor.Round
end
section
namespace Go.Proofs.YtkjdmbbaacjpmaaDoor.Round
open Go.Joins Go.ChangeShapes Go.WideShapes Go.RowKit Go.Deep
open Go.Proofs.YtkjdmbbaacjpmaaDoor.R Go.Proofs.YtkjdmbbaacjpmaaDoorW.PrintWords
theorem round_walk {w : World} (d n : Int) (A : Option Addr) (c : Nat) (l : List S50) (hr : Kd.C k50 w A l.length l) (hc : l.length ≤ c) (A1 : Option Addr) (c1 : Nat) (l1 : List Int) (hr1 : Kd.C (Kd.int .u8) w A1 l1.length l1) (hc1 : l1.length ≤ c1) (hb : bytB l1 = true) (_w : World) (htab : R.Tab w) :
    Calls Tryd.prog 7 #[.agg #[.int .i64 d, .int .i64 n, .slice A l.length c], .slice A1 l1.length c1] w fun e w1 => e = .returned (.bool true) ∧ Below w.heap.size w w1 := by
  obtain ⟨k, hk⟩ := (round_ev d n l l1 hb).rounds
  exact arrearslaw20_LockboxRoundTrip.calls k d n A c l A1 c1 l1 true w hr hc hr1 hc1 hk ⟨htab⟩
theorem wf_u8 {n : Int} (h : (Lit.int .u8 n).wf = true) : 0 ≤ n ∧ n ≤ 255 := by
  simp only [Lit.wf, Bool.and_eq_true, decide_eq_true_eq] at h
  have h1 : IntKind.u8.min = 0 := by decide
  have h2 : IntKind.u8.max = 255 := by decide
  rw [h1, h2] at h
  exact h
set_option maxRecDepth 100000 in
theorem open_bytes {H : Type} {enc : TypeId × Value → H} {W : World} {base b0 : Nat} {r : Reach} {v : Value} {d : DataW H} {p : List MemPlace}
    (hv : Value.okWide Tryd.prog W r b0 26 v) (h : DataW.Trod enc Tryd.prog W base (fun _ => true) true 26 v d p) :
    ∃ (A : Option Addr) (c : Nat) (l : List Int), v = .slice A l.length c ∧ Kd.C (Kd.int .u8) W A l.length l ∧ l.length ≤ c ∧ bytB l = true := by
  obtain ⟨a0, len0, cap0, rfl⟩ := okWide_slice Tryd.underlying26 hv
  obtain ⟨fuel, hf⟩ := h
  rcases open_ints Tryd.underlying26 Tryd.underlying5 (by kernel_rfl) hf with ⟨hcs, _⟩ | ⟨x, n, c, zs, hcs, _, hl, hm, hz, _, hcell, hwz⟩
  · simp [Value.cells] at hcs
    obtain ⟨rfl, rfl, rfl⟩ := hcs
    exact ⟨none, 0, [], rfl, Kd.C_nil _ _, by simp, rfl⟩
  · simp [Value.cells] at hcs
    obtain ⟨rfl, rfl, rfl⟩ := hcs
    simp only [if_true] at hz
    have hln : (zs.take len0).length = len0 := by rw [List.length_take]; omega
    refine ⟨some x, cap0, zs.take len0, by rw [hln], Kd.C_of_reads (h1 := fun _ => rfl) (d := (0 : Int)) ⟨rfl, ?_, fun _ => ⟨x, rfl, fun j hj => ?_⟩⟩, by omega, ?_⟩
    · rw [hln]; simp only [maxLen] at hm; omega
    · rw [hln] at hj
      rw [hcell j (by omega)]
      congr 2
      rw [List.getD_eq_getElem?_getD, List.getD_eq_getElem?_getD, List.getElem?_take_of_lt hj]
    · unfold bytB
      rw [List.all_eq_true]
      intro y hy
      rw [decide_eq_true_eq]
      exact wf_u8 (hwz y (List.mem_of_mem_take hy))
theorem list_of {α : Type} (P : Nat → α → Prop) (n : Nat) (h : ∀ i, i < n → ∃ x, P i x) : ∃ l : List α, l.length = n ∧ ∀ j p, l[j]? = some p → P j p := by
  induction n with
  | zero => exact ⟨[], rfl, fun j p hp => by simp at hp⟩
  | succ n ih =>
    obtain ⟨l, hl, hp⟩ := ih (fun i hi => h i (by omega))
    obtain ⟨x, hx⟩ := h n (by omega)
    refine ⟨l ++ [x], by simp [hl], fun j p hj => ?_⟩
    by_cases hjn : j < n
    · rw [List.getElem?_append_left (by omega)] at hj; exact hp j p hj
    · have hj' := hj
      have : j < (l ++ [x]).length := (List.getElem?_eq_some_iff.1 hj').1
      have hjn' : j = n := by simp [hl] at this; omega
      subst hjn'
      rw [List.getElem?_append_right (by omega), hl] at hj
      simp at hj
      exact hj ▸ hx
section
variable {H : Type} {enc : TypeId × Value → H} {P : Program} {w : World} {base : Nat} {spare : Nat → Bool} {held : Bool}
theorem open_slice_fields {t e : TypeId} {fs : Array Field} {fuel : Nat} {cs : List Value} {x : DataW H × List MemPlace} (ht : P.underlying t = some (.slice e)) (he : P.underlying e = some (.struct fs))
    (hone : oneCellFields P fs = true) (hC : P.cellsOf e = fs.size) (h : DataW.trod enc P w base spare held fuel t cs = some x) :
    (cs = [.slice none 0 0] ∧ x = (.nil, [])) ∨
    ∃ (a : Addr) (len cap m : Nat) (D : Nat → DataW H) (Pl : Nat → List MemPlace), cs = [.slice (some a) len cap] ∧ base ≤ a.block ∧ len ≤ cap ∧ cap ≤ maxLen ∧ m = (if spare a.block then cap else len) ∧
      x = (.slice ((List.range len).map D) ((List.range (m - len)).map fun j => D (len + j)), MemPlace.row a (m * fs.size) ++ (List.range m).flatMap Pl) ∧
      ∀ i, i < m → ∃ (ys : List (DataW H × List MemPlace)) (n : Nat), D i = .agg (ys.map (·.1)) ∧ Pl i = ys.flatMap (·.2) ∧ ys.length = fs.size ∧
        ∀ (j : Nat) (f : Field), fs[j]? = some f → ∃ (v : Value) (y : DataW H × List MemPlace), w.cell? (a.add (i * fs.size + j)) = some v ∧ ys[j]? = some y ∧ DataW.trod enc P w base spare held n f.type [v] = some y := by
  rcases open_slice ht h with h0 | ⟨a, len, cap, m, n, D, Pl, hcs, hb, hl, hm, hmm, hx, hi⟩
  · exact .inl h0
  · refine .inr ⟨a, len, cap, m, D, Pl, hcs, hb, hl, hm, hmm, by rw [hC] at hx; exact hx, fun i him => ?_⟩
    obtain ⟨cs', hc, ht'⟩ := hi i him
    rw [hC] at hc
    obtain ⟨ys, n', hn', hy, hlen, hyl, hf⟩ := DataW.trod_struct he ht'
    obtain ⟨_, hcl, hat⟩ := World.cells?_some hc
    simp only [Prod.mk.injEq] at hy
    refine ⟨ys, n', hy.1, hy.2, hyl, fun j f hj => ?_⟩
    obtain ⟨ho, hk⟩ := hone_of hone j f hj
    have hjl : j < fs.size := (Array.getElem?_eq_some_iff.1 hj).1
    have hcell := hat j hjl
    have hv : cs'[j]? = some (cs'[j]'(by omega)) := List.getElem?_eq_getElem (by omega)
    have h1 := hf j f hj
    rw [ho, hk] at h1
    have hone' : (cs'.drop j).take 1 = [cs'[j]'(by omega)] := by
      rw [List.drop_eq_getElem_cons (by omega)]
      rfl
    rw [hone'] at h1
    have hys : ys[j]? = some (ys[j]'(by omega)) := List.getElem?_eq_getElem (by omega)
    refine ⟨_, _, ?_, hys, h1.trans hys⟩
    rw [← Go.Deep.add_add, hcell, hv]
end
set_option maxRecDepth 100000 in
theorem open_batch {H : Type} {enc : TypeId × Value → H} {W : World} {base b0 : Nat} {r : Reach} {v : Value} {d : DataW H} {p : List MemPlace}
    (hv : Value.okWide Tryd.prog W r b0 32 v) (h : DataW.Trod enc Tryd.prog W base (fun _ => true) true 32 v d p) :
    ∃ (a0 n0 : Int) (A : Option Addr) (c : Nat) (l : List S50), v = .agg #[.int .i64 a0, .int .i64 n0, .slice A l.length c] ∧ Kd.C k50 W A l.length l ∧ l.length ≤ c := by
  obtain ⟨v0, v1, v2, y0, y1, y2, n, rfl, rfl, rfl, h0, h1, h2⟩ := open_agg3 Tryd.underlying32 (by kernel_rfl) (by kernel_rfl) hv h
  obtain ⟨z0, e0, _, _⟩ := DataW.trod_int Tryd.underlying3 h0
  obtain ⟨z1, e1, _, _⟩ := DataW.trod_int Tryd.underlying3 h1
  simp only [List.cons.injEq, and_true] at e0 e1
  subst e0; subst e1
  rcases open_slice_fields Tryd.underlying30 Tryd.underlying50 (by kernel_rfl) (by kernel_rfl) h2 with ⟨hcs, _⟩ | ⟨a, len, cap, m, D, Pl, hcs, _, hl, hm, hmm, _, hi⟩
  · simp only [List.cons.injEq, and_true] at hcs
    subst hcs
    exact ⟨z0, z1, none, 0, [], rfl, ⟨rfl, by simp, fun h => by simp at h⟩, by simp⟩
  · simp only [List.cons.injEq, and_true] at hcs
    subst hcs
    have hx : ∀ i, i < len → ∃ x : S50, W.cell? (a.add (i * 2 + 0)) = some (.int .i64 x.f0) ∧ W.cell? (a.add (i * 2 + 1)) = some (.int .i64 x.f1) := by
      intro i hil
      obtain ⟨ys, n', _, _, _, hf⟩ := hi i (by rw [hmm, if_pos rfl]; omega)
      obtain ⟨u0, t0, c0, _, k0⟩ := hf 0 _ rfl
      obtain ⟨u1, t1, c1, _, k1⟩ := hf 1 _ rfl
      obtain ⟨x0, g0, _, _⟩ := DataW.trod_int Tryd.underlying3 k0
      obtain ⟨x1, g1, _, _⟩ := DataW.trod_int Tryd.underlying2 k1
      simp only [List.cons.injEq, and_true] at g0 g1
      subst g0; subst g1
      exact ⟨⟨x0, x1⟩, c0, c1⟩
    obtain ⟨l, hll, hp⟩ := list_of (fun i (x : S50) => W.cell? (a.add (i * 2 + 0)) = some (.int .i64 x.f0) ∧ W.cell? (a.add (i * 2 + 1)) = some (.int .i64 x.f1)) len hx
    subst hll
    refine ⟨z0, z1, some a, cap, l, rfl, ⟨rfl, ?_, fun _ => ⟨a, rfl, fun j q hj => ?_⟩⟩, hl⟩
    · simp only [maxLen] at hm; omega
    · obtain ⟨c0, c1⟩ := hp j q hj
      refine ⟨_, rfl, k50_mk W q, fun i u hu => ?_⟩
      match i, hu with
      | 0, hu => simp at hu; subst hu; exact c0
      | 1, hu => simp at hu; subst hu; exact c1
end Go.Proofs.YtkjdmbbaacjpmaaDoor.Round
end
