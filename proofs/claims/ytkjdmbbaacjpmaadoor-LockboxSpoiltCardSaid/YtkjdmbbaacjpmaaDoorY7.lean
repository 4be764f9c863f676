-- Texts of this claim, joined and cut down to what it uses (a program of this session).
import Derived.Test.YtkjdmbbaacjpmaaDoorY6
import Derived.LaidSub
import Derived.LaidLaws
import Derived.Lib.LaidTab
import Derived.Lib.SmallJoins
import Derived.Deep.Slices
import Derived.Deep.Fields
import Derived.ChangeSame
import Derived.ChangeSlices
import Derived.OpenShut
section
namespace Go.Proofs.YtkjdmbbaacjpmaaDoor.Round
open Go.RowKit Go.Proofs.YtkjdmbbaacjpmaaDoor.R Go.Proofs.YtkjdmbbaacjpmaaDoor.Scan Go.Proofs.YtkjdmbbaacjpmaaDoor.Reader Go.Proofs.YtkjdmbbaacjpmaaDoor.FmtR Go.Proofs.YtkjdmbbaacjpmaaDoor.Num Go.Proofs.YtkjdmbbaacjpmaaDoorW.PrintWords
open Go.Proofs.YtkjdmbbaacjpmaaDoor.Reads (rdN)
open Go.Proofs.YtkjdmbbaacjpmaaDoor.DDigits (wrN)
set_option linter.unusedVariables false
set_option linter.unusedSimpArgs false
theorem copy_ev (l : List Int) (hl : l.length ≤ 100000000) : Ev (fun k => arrearslaw19_CopyBytes.f k l) l := by
  have go : ∀ d i : Nat, i + d = l.length → Ev (fun k => arrearslaw19_CopyBytes.l0 k l (l.take i) i) l := by
    intro d
    induction d with
    | zero =>
      intro i h
      rw [List.take_of_length_le (by omega)]
      refine Ev.step (fun k => ?_) (Ev.now l)
      simp only [arrearslaw19_CopyBytes.l0]
      rw [if_neg (by omega)]
    | succ d ih =>
      intro i h
      have hi : i < l.length := by omega
      refine Ev.step (fun k => ?_) (ih (i + 1) (by omega))
      simp only [arrearslaw19_CopyBytes.l0]
      rw [if_pos (by omega), if_pos (by omega), if_pos (by rw [List.length_take]; omega), rdN l i hi, wrN i (by omega), List.take_succ_eq_append_getElem hi]
  exact Ev.congr (fun k => rfl) (go l.length 0 (by omega))
theorem byt_dig {l : List Int} (h : l.all isDig = true) : bytB l = true := by
  unfold bytB
  rw [List.all_eq_true] at *
  intro x hx
  have := h x hx
  simp only [isDig, decide_eq_true_eq] at this
  rw [decide_eq_true_eq]; omega
theorem byt_app (a b : List Int) : bytB (a ++ b) = (bytB a && bytB b) := List.all_append
theorem byt_dec (k : Nat) (x : Int) : bytB (dec k x) = true := byt_dig (dec_dig k x)
theorem byt_itls : ∀ (i : Nat) (l : List S50), bytB (itls i l) = true
  | _, [] => rfl
  | i, x :: t => by
    rw [itls, byt_app, byt_itls (i + 1) t, Bool.and_true]
    unfold itl
    simp only [byt_app, byt_dec, Bool.and_true]
    decide
theorem byt_fmt (d n : Int) (l : List S50) : bytB (fmt d n l) = true := by
  unfold fmt
  split
  · rw [byt_app, byt_app, byt_itls]
    unfold hdl trl
    simp only [byt_app, byt_dec, Bool.and_true]
    decide
  · rfl
theorem parse_f {l : List Int} (hl : l.length ≤ 100000000) (hb : bytB l = true) : lockbox_Parse.f l = some (parseP l) := by
  unfold lockbox_Parse.f; rw [if_pos ⟨by omega, hb⟩]
theorem byt_set {l : List Int} (h : bytB l = true) (i : Nat) {v : Int} (hv : 0 ≤ v ∧ v ≤ 255) : bytB (l.set i v) = true := by
  unfold bytB at *
  rw [List.all_eq_true] at *
  intro x hx
  rcases List.mem_or_eq_of_mem_set hx with h1 | rfl
  · exact h x h1
  · exact decide_eq_true hv
theorem spoilt_ev (d n : Int) (l : List S50) (p v : Int) (hv : 0 ≤ v ∧ v ≤ 255) : Ev (fun k => arrearslaw20_LockboxSpoilt.f k d n l p v) true := by
  by_cases hl : (l.length : Int) > 10010
  · refine Ev.congr (fun k => ?_) (Ev.now true)
    show arrearslaw20_LockboxSpoilt.f k d n l p v = _
    unfold arrearslaw20_LockboxSpoilt.f
    rw [if_pos hl]
  · have hfl := fmt_length d n l
    have hend : ∀ x7 : List Int, Ev (fun k => arrearslaw20_LockboxSpoilt.j0 k p v x7 true) true := fun x7 => Ev.step (fun k => by simp only [arrearslaw20_LockboxSpoilt.j0]; rfl) (Ev.now true)
    refine Ev.congr (f := fun k => ((lockbox_Format.f k d n l).bind fun bt402 => ((arrearsref20_Has.f k d n l).bind fun t406 => (if (bt402.2 != t406) = true then (some false) else (if bt402.2 = true then (if p < 16 then (arrearslaw20_LockboxSpoilt.j0 k p v bt402.1 true) else (arrearslaw20_LockboxSpoilt.j0 k p v bt402.1 (decide (p ≥ (bt402.1.length : Int))))) else (arrearslaw20_LockboxSpoilt.j0 k p v bt402.1 true)))) : Option Bool)) (fun k => ?_) ?_
    · show arrearslaw20_LockboxSpoilt.f k d n l p v = _
      unfold arrearslaw20_LockboxSpoilt.f
      rw [if_neg hl, own_f d n l (by omega)]
      simp only [Option.bind_some]
    · refine Ev.bind (format_ev d n l (by omega)) (f := fun k bt402 => (((arrearsref20_Has.f k d n l).bind fun t406 => (if (bt402.2 != t406) = true then (some false) else (if bt402.2 = true then (if p < 16 then (arrearslaw20_LockboxSpoilt.j0 k p v bt402.1 true) else (arrearslaw20_LockboxSpoilt.j0 k p v bt402.1 (decide (p ≥ (bt402.1.length : Int))))) else (arrearslaw20_LockboxSpoilt.j0 k p v bt402.1 true)))) : Option Bool)) ?_
      refine Ev.bind (hasRef_ev d n l (by omega)) (f := fun k t406 => ((if (hasB d n l != t406) = true then (some false) else (if hasB d n l = true then (if p < 16 then (arrearslaw20_LockboxSpoilt.j0 k p v (fmt d n l) true) else (arrearslaw20_LockboxSpoilt.j0 k p v (fmt d n l) (decide (p ≥ ((fmt d n l).length : Int))))) else (arrearslaw20_LockboxSpoilt.j0 k p v (fmt d n l) true))) : Option Bool)) ?_
      simp only [bne_self_eq_false, Bool.false_eq_true, if_false]
      cases hh : hasB d n l with
      | false => simp only [Bool.false_eq_true, if_false]; exact hend _
      | true =>
        simp only [if_true]
        by_cases hp : p < 16
        · simp only [hp, if_true]; exact hend _
        · simp only [hp, if_false]
          by_cases hq : p ≥ ((fmt d n l).length : Int)
          · rw [decide_eq_true hq]; exact hend _
          · rw [decide_eq_false hq]
            refine Ev.step (f := fun k => ((arrearslaw19_CopyBytes.f k (fmt d n l)).bind fun t407 => ((lockbox_Parse.f t407).bind fun bt410 => (if bt410.2.2.2.1 = 0 then (if 0 ≤ p then (if p < ((fmt d n l).length : Int) then (if (rd (fmt d n l) p) = v then (some true) else ((lockbox_Parse.f ((fmt d n l).set (p : Int).toNat v)).bind fun bt420 => (if bt420.2.2.2.1 = 0 then (some false) else (some ((bt420.2.2.1.length : Int) == 0))))) else (none)) else (none)) else (some false))) : Option Bool)) (fun k => by simp only [arrearslaw20_LockboxSpoilt.j0]; rfl) ?_
            refine Ev.bind (copy_ev (fmt d n l) (by omega)) (f := fun _ t407 => (((lockbox_Parse.f t407).bind fun bt410 => (if bt410.2.2.2.1 = 0 then (if 0 ≤ p then (if p < ((fmt d n l).length : Int) then (if (rd (fmt d n l) p) = v then (some true) else ((lockbox_Parse.f ((fmt d n l).set (p : Int).toNat v)).bind fun bt420 => (if bt420.2.2.2.1 = 0 then (some false) else (some ((bt420.2.2.1.length : Int) == 0))))) else (none)) else (none)) else (some false))) : Option Bool)) ?_
            refine Ev.congr (fun k => ?_) (Ev.now true)
            rw [parse_f (by omega) (byt_fmt d n l), parse_fmt d n l hh]
            simp only [Option.bind_some, if_true]
            rw [if_pos (by omega), if_pos (by omega)]
            obtain ⟨q, rfl⟩ : ∃ q : Nat, p = q := ⟨p.toNat, by omega⟩
            have hqi : q < (fmt d n l).length := by omega
            rw [rdN _ q hqi, Int.toNat_natCast]
            by_cases he : (fmt d n l)[q] = v
            · rw [if_pos he]
            · rw [if_neg he, parse_f (by rw [List.length_set]; omega) (byt_set (byt_fmt d n l) q hv)]
              simp only [Option.bind_some]
              rcases parse_cases ((fmt d n l).set q v) with ⟨d', n', l', hp', hh', hf'⟩ | ⟨c, k', hp', hc⟩
              · exfalso
                have ho : One q (fmt d n l) (fmt d' n' l') := by
                  rw [hf']
                  refine ⟨by rw [List.length_set], fun i hi => ?_⟩
                  rw [List.getElem?_set_ne (Ne.symm hi)]
                have heq := spoilt hh hh' q (by omega) ho
                rw [hf'] at heq
                have h3 : (fmt d n l)[q]? = ((fmt d n l).set q v)[q]? := by rw [← heq]
                rw [List.getElem?_set_self hqi, List.getElem?_eq_getElem hqi] at h3
                exact he (Option.some.inj h3)
              · rw [hp']
                simp only [hc, if_false]
                rfl
end Go.Proofs.YtkjdmbbaacjpmaaDoor.Round
end
section
namespace Go.Proofs.YtkjdmbbaacjpmaaDoor.Round
open Go.Joins Go.ChangeShapes Go.WideShapes Go.RowKit Go.Deep
open Go.Proofs.YtkjdmbbaacjpmaaDoor.R Go.Proofs.YtkjdmbbaacjpmaaDoorW.PrintWords
theorem wf_u8 {n : Int} (h : (Lit.int .u8 n).wf = true) : 0 ≤ n ∧ n ≤ 255 := by
  simp only [Lit.wf, Bool.and_eq_true, decide_eq_true_eq] at h
  have h1 : IntKind.u8.min = 0 := by decide
  have h2 : IntKind.u8.max = 255 := by decide
  rw [h1, h2] at h
  exact h
theorem spoilt_walk {w : World} (d n : Int) (A : Option Addr) (c : Nat) (l : List S50) (hr : Kd.C k50 w A l.length l) (hc : l.length ≤ c) (p v : Int) (hv : (Lit.int .u8 v).wf = true) (_w : World) (htab : R.Tab w) :
    Calls Tryd.prog 8 #[.agg #[.int .i64 d, .int .i64 n, .slice A l.length c], .int .i64 p, .int .u8 v] w fun e w1 => e = .returned (.bool true) ∧ Below w.heap.size w w1 := by
  obtain ⟨k, hk⟩ := (spoilt_ev d n l p v (wf_u8 hv)).rounds
  exact arrearslaw20_LockboxSpoilt.calls k d n A c l p v true w hr hc hk ⟨htab⟩
theorem list_of {α : Type} (P : Nat → α → Prop) (n : Nat) (h : ∀ i, i < n → ∃ x, P i x) : ∃ l : List α, l.length = n ∧ ∀ j p, l[j]? = some p → P j p := by
  induction n with
  | zero => exact ⟨[], rfl, fun j p hp => by simp at hp⟩
  | succ n ih =>
    obtain ⟨l, hl, hp⟩ := ih (fun i hi => h i (by omega))
    obtain ⟨x, hx⟩ := h n (by omega)
    refine ⟨l ++ [x], by simp [hl], fun j p hj => ?_⟩
    by_cases hjn : j < n
    · rw [List.getElem?_append_left (by omega)] at hj; exact hp j p hj
    · have hj' := hj
      have : j < (l ++ [x]).length := (List.getElem?_eq_some_iff.1 hj').1
      have hjn' : j = n := by simp [hl] at this; omega
      subst hjn'
      rw [List.getElem?_append_right (by omega), hl] at hj
      simp at hj
      exact hj ▸ hx
section
variable {H : Type} {enc : TypeId × Value → H} {P : Program} {w : World} {base : Nat} {spare : Nat → Bool} {held : Bool}
theorem open_slice_fields {t e : TypeId} {fs : Array Field} {fuel : Nat} {cs : List Value} {x : DataW H × List MemPlace} (ht : P.underlying t = some (.slice e)) (he : P.underlying e = some (.struct fs))
    (hone : oneCellFields P fs = true) (hC : P.cellsOf e = fs.size) (h : DataW.trod enc P w base spare held fuel t cs = some x) :
    (cs = [.slice none 0 0] ∧ x = (.nil, [])) ∨
    ∃ (a : Addr) (len cap m : Nat) (D : Nat → DataW H) (Pl : Nat → List MemPlace), cs = [.slice (some a) len cap] ∧ base ≤ a.block ∧ len ≤ cap ∧ cap ≤ maxLen ∧ m = (if spare a.block then cap else len) ∧
      x = (.slice ((List.range len).map D) ((List.range (m - len)).map fun j => D (len + j)), MemPlace.row a (m * fs.size) ++ (List.range m).flatMap Pl) ∧
      ∀ i, i < m → ∃ (ys : List (DataW H × List MemPlace)) (n : Nat), D i = .agg (ys.map (·.1)) ∧ Pl i = ys.flatMap (·.2) ∧ ys.length = fs.size ∧
        ∀ (j : Nat) (f : Field), fs[j]? = some f → ∃ (v : Value) (y : DataW H × List MemPlace), w.cell? (a.add (i * fs.size + j)) = some v ∧ ys[j]? = some y ∧ DataW.trod enc P w base spare held n f.type [v] = some y := by
  rcases open_slice ht h with h0 | ⟨a, len, cap, m, n, D, Pl, hcs, hb, hl, hm, hmm, hx, hi⟩
  · exact .inl h0
  · refine .inr ⟨a, len, cap, m, D, Pl, hcs, hb, hl, hm, hmm, by rw [hC] at hx; exact hx, fun i him => ?_⟩
    obtain ⟨cs', hc, ht'⟩ := hi i him
    rw [hC] at hc
    obtain ⟨ys, n', hn', hy, hlen, hyl, hf⟩ := DataW.trod_struct he ht'
    obtain ⟨_, hcl, hat⟩ := World.cells?_some hc
    simp only [Prod.mk.injEq] at hy
    refine ⟨ys, n', hy.1, hy.2, hyl, fun j f hj => ?_⟩
    obtain ⟨ho, hk⟩ := hone_of hone j f hj
    have hjl : j < fs.size := (Array.getElem?_eq_some_iff.1 hj).1
    have hcell := hat j hjl
    have hv : cs'[j]? = some (cs'[j]'(by omega)) := List.getElem?_eq_getElem (by omega)
    have h1 := hf j f hj
    rw [ho, hk] at h1
    have hone' : (cs'.drop j).take 1 = [cs'[j]'(by omega)] := by
      rw [List.drop_eq_getElem_cons (by omega)]
      rfl
    rw [hone'] at h1
    have hys : ys[j]? = some (ys[j]'(by omega)) := List.getElem?_eq_getElem (by omega)
    refine ⟨_, _, ?_, hys, h1.trans hys⟩
    rw [← Go.Deep.add_add, hcell, hv]
end
set_option maxRecDepth 100000 in
theorem open_batch {H : Type} {enc : TypeId × Value → H} {W : World} {base b0 : Nat} {r : Reach} {v : Value} {d : DataW H} {p : List MemPlace}
    (hv : Value.okWide Tryd.prog W r b0 32 v) (h : DataW.Trod enc Tryd.prog W base (fun _ => true) true 32 v d p) :
    ∃ (a0 n0 : Int) (A : Option Addr) (c : Nat) (l : List S50), v = .agg #[.int .i64 a0, .int .i64 n0, .slice A l.length c] ∧ Kd.C k50 W A l.length l ∧ l.length ≤ c := by
  obtain ⟨v0, v1, v2, y0, y1, y2, n, rfl, rfl, rfl, h0, h1, h2⟩ := open_agg3 Tryd.underlying32 (by kernel_rfl) (by kernel_rfl) hv h
  obtain ⟨z0, e0, _, _⟩ := DataW.trod_int Tryd.underlying3 h0
  obtain ⟨z1, e1, _, _⟩ := DataW.trod_int Tryd.underlying3 h1
  simp only [List.cons.injEq, and_true] at e0 e1
  subst e0; subst e1
  rcases open_slice_fields Tryd.underlying30 Tryd.underlying50 (by kernel_rfl) (by kernel_rfl) h2 with ⟨hcs, _⟩ | ⟨a, len, cap, m, D, Pl, hcs, _, hl, hm, hmm, _, hi⟩
  · simp only [List.cons.injEq, and_true] at hcs
    subst hcs
    exact ⟨z0, z1, none, 0, [], rfl, ⟨rfl, by simp, fun h => by simp at h⟩, by simp⟩
  · simp only [List.cons.injEq, and_true] at hcs
    subst hcs
    have hx : ∀ i, i < len → ∃ x : S50, W.cell? (a.add (i * 2 + 0)) = some (.int .i64 x.f0) ∧ W.cell? (a.add (i * 2 + 1)) = some (.int .i64 x.f1) := by
      intro i hil
      obtain ⟨ys, n', _, _, _, hf⟩ := hi i (by rw [hmm, if_pos rfl]; omega)
      obtain ⟨u0, t0, c0, _, k0⟩ := hf 0 _ rfl
      obtain ⟨u1, t1, c1, _, k1⟩ := hf 1 _ rfl
      obtain ⟨x0, g0, _, _⟩ := DataW.trod_int Tryd.underlying3 k0
      obtain ⟨x1, g1, _, _⟩ := DataW.trod_int Tryd.underlying2 k1
      simp only [List.cons.injEq, and_true] at g0 g1
      subst g0; subst g1
      exact ⟨⟨x0, x1⟩, c0, c1⟩
    obtain ⟨l, hll, hp⟩ := list_of (fun i (x : S50) => W.cell? (a.add (i * 2 + 0)) = some (.int .i64 x.f0) ∧ W.cell? (a.add (i * 2 + 1)) = some (.int .i64 x.f1)) len hx
    subst hll
    refine ⟨z0, z1, some a, cap, l, rfl, ⟨rfl, ?_, fun _ => ⟨a, rfl, fun j q hj => ?_⟩⟩, hl⟩
    · simp only [maxLen] at hm; omega
    · obtain ⟨c0, c1⟩ := hp j q hj
      refine ⟨_, rfl, k50_mk W q, fun i u hu => ?_⟩
      match i, hu with
      | 0, hu => simp at hu; subst hu; exact c0
      | 1, hu => simp at hu; subst hu; exact c1
end Go.Proofs.YtkjdmbbaacjpmaaDoor.Round
end
