-- Texts of this claim, joined and cut down to what it uses (a program of this session).
import Derived.Test.YtkjdmbbaacjpmaaDoorU8
section
namespace Go.Proofs.YtkjdmbbaacjpmaaDoor.Reads
open Go.RowKit Go.Proofs.YtkjdmbbaacjpmaaDoor.R Go.Proofs.YtkjdmbbaacjpmaaDoor.Reader Go.Proofs.YtkjdmbbaacjpmaaDoorW.PrintWords
open Go.Proofs.YtkjdmbbaacjpmaaDoor.DDigits (wrN)
set_option linter.unusedVariables false
set_option linter.unusedSimpArgs false
theorem copy_ev (l : List Int) (hl : l.length ≤ 100000000) : Ev (fun k => arrearslaw19_CopyBytes.f k l) l := by
  have go : ∀ d i : Nat, i + d = l.length → Ev (fun k => arrearslaw19_CopyBytes.l0 k l (l.take i) i) l := by
    intro d
    induction d with
    | zero =>
      intro i h
      rw [List.take_of_length_le (by omega)]
      refine Ev.step (fun k => ?_) (Ev.now l)
      simp only [arrearslaw19_CopyBytes.l0]
      rw [if_neg (by omega)]
    | succ d ih =>
      intro i h
      have hi : i < l.length := by omega
      refine Ev.step (fun k => ?_) (ih (i + 1) (by omega))
      simp only [arrearslaw19_CopyBytes.l0]
      rw [if_pos (by omega), if_pos (by omega), if_pos (by rw [List.length_take]; omega), rdN l i hi, wrN i (by omega), List.take_succ_eq_append_getElem hi]
  exact Ev.congr (fun k => rfl) (go l.length 0 (by omega))
theorem sameBatch_self (dd n : Int) (l : List S50) (hl : l.length ≤ 100000) : Ev (fun k => arrearslaw20_sameBatch.f k dd n l dd n l) true := by
  have go : ∀ d i : Nat, i + d = l.length → Ev (fun k => arrearslaw20_sameBatch.l0 k i dd n l dd n l) true := by
    intro d
    induction d with
    | zero =>
      intro i h
      refine Ev.step (fun k => ?_) (Ev.now true)
      simp only [arrearslaw20_sameBatch.l0]
      rw [if_neg (by omega)]
    | succ d ih =>
      intro i h
      refine Ev.step (fun k => ?_) (ih (i + 1) (by omega))
      simp only [arrearslaw20_sameBatch.l0, beq_self_eq_true, Bool.not_true, Bool.or_false, Bool.false_eq_true, if_false]
      rw [if_pos (by omega), if_pos (by omega), if_pos (by omega), wrN i (by omega)]
  have h := go l.length 0 (by omega)
  have h2 : Ev (fun k => arrearslaw20_sameBatch.j0 k false dd n l dd n l) true := by
    refine Ev.step (fun k => ?_) h
    simp only [arrearslaw20_sameBatch.j0]
    rw [if_neg (by simp)]; rfl
  refine Ev.congr (fun k => ?_) h2
  show arrearslaw20_sameBatch.f k dd n l dd n l = _
  unfold arrearslaw20_sameBatch.f
  rw [if_pos rfl, if_pos rfl]
  simp
theorem loop_items (f : Nat) : ∀ (xs : List Int) (k : Nat) (l l' : List S50), l.length + 1 = k → k ≤ 10000 → loopP f xs k l = .ok l' → l'.length ≤ 9999 := by
  induction f with
  | zero => intro xs k l l' _ _ h; simp [loopP] at h
  | succ f ih =>
    intro xs k l l' hl hk h
    rw [loopP] at h
    split at h
    · unfold endP at h
      split at h
      · cases h
      · split at h
        · simp only [Except.ok.injEq] at h
          subst h; omega
        · cases h
    · next hb =>
      split at h
      · cases h
      · next x r _ =>
        have hk9 : k ≤ 9999 := by
          simp only [brk, Bool.not_eq_true, Bool.or_eq_false_iff, decide_eq_false_iff_not] at hb
          omega
        exact ih r (k + 1) (l ++ [x]) l' (by simp; omega) (by omega) (by rw [Int.natCast_add]; exact h)
theorem parse_items (xs : List Int) : (parseP xs).2.2.1.length ≤ 9999 := by
  unfold parseP readP
  cases headP xs with
  | none => simp
  | some p =>
    obtain ⟨dn, r⟩ := p
    simp only
    cases h : loopP 10001 r 1 [] with
    | ok l => exact loop_items 10001 r 1 [] l rfl (by omega) h
    | error e => simp [Except.map]
theorem bytB_set {l : List Int} (h : bytB l = true) (i : Nat) : bytB (l.set i 53) = true := by
  unfold bytB at *
  rw [List.all_eq_true] at *
  intro x hx
  rcases List.mem_or_eq_of_mem_set hx with h1 | rfl
  · exact h x h1
  · decide
theorem law_l1 (m : Nat) : ∀ (i : Nat) (x4 : List Int), x4.length ≤ i + m → x4.length ≤ 524288 → i ≤ 1000000 → bytB x4 = true → Ev (fun k => arrearslaw20_LockboxReads.l1 k x4 i) true := by
  have stop : ∀ (i : Nat) (x4 : List Int), ¬ i < x4.length → x4.length ≤ 524288 → bytB x4 = true → Ev (fun k => arrearslaw20_LockboxReads.l1 k x4 i) true := by
    intro i x4 hi hl hb
    have hp : lockbox_Parse.f x4 = some (parseP x4) := by unfold lockbox_Parse.f; rw [if_pos ⟨by omega, hb⟩]
    have hit := parse_items x4
    refine Ev.step (f := fun k => ((arrearslaw19_CopyBytes.f k x4).bind fun t243 => ((arrearsref20_Parse.f k t243).bind fun bt246 => ((arrearslaw20_sameBatch.f k (parseP x4).1 (parseP x4).2.1 (parseP x4).2.2.1 bt246.1 bt246.2.1 bt246.2.2.1).bind fun t253 => (if t253 = true then (if (parseP x4).2.2.2.1 = bt246.2.2.2.1 then (some ((parseP x4).2.2.2.2 == bt246.2.2.2.2)) else (some false)) else (some false)))))) (fun k => by simp only [arrearslaw20_LockboxReads.l1]; rw [if_neg (by omega), hp]; rfl) ?_
    refine Ev.bind (copy_ev x4 (by omega)) (f := fun k t243 => ((arrearsref20_Parse.f k t243).bind fun bt246 => ((arrearslaw20_sameBatch.f k (parseP x4).1 (parseP x4).2.1 (parseP x4).2.2.1 bt246.1 bt246.2.1 bt246.2.2.1).bind fun t253 => (if t253 = true then (if (parseP x4).2.2.2.1 = bt246.2.2.2.1 then (some ((parseP x4).2.2.2.2 == bt246.2.2.2.2)) else (some false)) else (some false))))) ?_
    refine Ev.bind (ref_ev x4 (by omega)) (f := fun k bt246 => ((arrearslaw20_sameBatch.f k (parseP x4).1 (parseP x4).2.1 (parseP x4).2.2.1 bt246.1 bt246.2.1 bt246.2.2.1).bind fun t253 => (if t253 = true then (if (parseP x4).2.2.2.1 = bt246.2.2.2.1 then (some ((parseP x4).2.2.2.2 == bt246.2.2.2.2)) else (some false)) else (some false)))) ?_
    refine Ev.bind (sameBatch_self _ _ _ (by omega)) (f := fun _ t253 => (if t253 = true then (if (parseP x4).2.2.2.1 = (parseP x4).2.2.2.1 then (some ((parseP x4).2.2.2.2 == (parseP x4).2.2.2.2)) else (some false)) else (some false))) ?_
    refine Ev.congr (fun k => ?_) (Ev.now _)
    simp
  induction m with
  | zero => intro i x4 h hl hi hb; exact stop i x4 (by omega) hl hb
  | succ m ih =>
    intro i x4 h hl hi hb
    by_cases hlt : i < x4.length
    · have e := ih (i + 7) (x4.set i 53) (by rw [List.length_set]; omega) (by rw [List.length_set]; omega) (by omega) (bytB_set hb i)
      refine Ev.step (fun k => ?_) e
      simp only [arrearslaw20_LockboxReads.l1]
      rw [if_pos (by omega), if_pos (by omega), Int.toNat_natCast]
      congr 1
      rw [wrI (i := (i : Int) + 7) (by omega) (by omega)]; rfl
    · exact stop i x4 hlt hl hb
section
variable (l0 : List Int) (hl : l0.length ≤ 524288) (hb : bytB l0 = true)
include hl hb
theorem law_l0 (m : Nat) : ∀ (i : Nat) (d n : Int) (x d2 n2 : _) (y : List S50), i + m = y.length → y.length = x.length → x.length ≤ 9999 →
    Ev (fun k => arrearslaw20_LockboxReads.l0 k (l0 ++ [90, 91, 92]) l0 i d n y d2 n2 x d2 n2 x) true := by
  induction m with
  | zero =>
    intro i d n x d2 n2 y hi hy hx
    have h1 := law_l1 l0.length 3 l0 (by omega) hl (by omega) hb
    have h2 : Ev (fun k => arrearslaw20_LockboxReads.j2 k (l0 ++ [90, 91, 92]) l0 false) true := by
      refine Ev.step (fun k => ?_) h1
      simp only [arrearslaw20_LockboxReads.j2]
      rw [if_neg (by simp), if_pos (by rw [List.length_append]; omega)]
      rfl
    refine Ev.step (f := fun k => ((arrearslaw20_sameBatch.f k d2 n2 x d2 n2 x).bind fun t233 => (if t233 = true then (arrearslaw20_LockboxReads.j2 k (l0 ++ [90, 91, 92]) l0 (((y ++ List.replicate 64 z50).length : Int) != (wrap64 ((x.length : Int) + 64)))) else (arrearslaw20_LockboxReads.j2 k (l0 ++ [90, 91, 92]) l0 true)))) (fun k => by simp only [arrearslaw20_LockboxReads.l0]; rw [if_neg (by omega), if_pos (by omega)]) ?_
    refine Ev.bind (sameBatch_self d2 n2 x (by omega)) (f := fun k t233 => (if t233 = true then (arrearslaw20_LockboxReads.j2 k (l0 ++ [90, 91, 92]) l0 (((y ++ List.replicate 64 z50).length : Int) != (wrap64 ((x.length : Int) + 64)))) else (arrearslaw20_LockboxReads.j2 k (l0 ++ [90, 91, 92]) l0 true))) ?_
    have hbf : (((y ++ List.replicate 64 z50).length : Int) != (wrap64 ((x.length : Int) + 64))) = false := by
      rw [bne_eq_false_iff_eq, wrI (i := (x.length : Int) + 64) (by omega) (by omega), List.length_append, List.length_replicate]; omega
    rw [hbf]
    exact h2
  | succ m ih =>
    intro i d n x d2 n2 y hi hy hx
    refine Ev.step (fun k => ?_) (ih (i + 1) d n x d2 n2 (y.set i (⟨(-7), 0⟩ : S50)) (by rw [List.length_set]; omega) (by rw [List.length_set]; omega) hx)
    simp only [arrearslaw20_LockboxReads.l0]
    rw [if_pos (by omega), if_pos (by omega), wrN i (by omega), Int.toNat_natCast]
end
theorem reads_ev (l0 : List Int) (hb : bytB l0 = true) : Ev (fun k => arrearslaw20_LockboxReads.f k l0) true := by
  by_cases hl : (l0.length : Int) > 524288
  · refine Ev.congr (fun k => ?_) (Ev.now true)
    show arrearslaw20_LockboxReads.f k l0 = _
    unfold arrearslaw20_LockboxReads.f
    rw [if_pos hl]
  · have hl' : l0.length ≤ 524288 := by omega
    have hp : lockbox_Parse.f l0 = some (parseP l0) := by unfold lockbox_Parse.f; rw [if_pos ⟨by omega, hb⟩]
    have hit := parse_items l0
    have htk : (l0 ++ [90, 91, 92]).take ((l0.length : Int) : Int).toNat = l0 := by rw [Int.toNat_natCast, List.take_left]
    have hlen : (l0 ++ [90, 91, 92]).length = l0.length + 3 := by simp
    have hlaw := law_l0 l0 hl' hb (parseP l0).2.2.1.length 0 (parseP l0).1 (parseP l0).2.1 (parseP l0).2.2.1 (parseP l0).1 (parseP l0).2.1 (parseP l0).2.2.1 (by omega) rfl hit
    have hj : Ev (fun k => arrearslaw20_LockboxReads.j0 k (l0 ++ [90, 91, 92]) l0 false (parseP l0).1 (parseP l0).2.1 (parseP l0).2.2.1 (parseP l0).1 (parseP l0).2.1 (parseP l0).2.2.1 (parseP l0).1 (parseP l0).2.1 (parseP l0).2.2.1) true := by
      refine Ev.step (fun k => ?_) hlaw
      simp only [arrearslaw20_LockboxReads.j0]
      rw [if_neg (by simp)]
      rfl
    generalize hP : parseP l0 = p at *
    refine Ev.congr (f := fun k => ((arrearslaw19_CopyBytes.f k l0).bind fun t181 => (if t181.length + 3 < 140737488355328 then (if (l0.length : Int) ≤ ((t181 ++ [90, 91, 92]).length : Int) then ((lockbox_Parse.f ((t181 ++ [90, 91, 92]).take ((l0.length : Int) : Int).toNat)).bind fun bt194 => ((lockbox_Parse.f ((t181 ++ [90, 91, 92]).take ((l0.length : Int) : Int).toNat)).bind fun bt202 => ((arrearsref20_Parse.f k l0).bind fun bt210 => ((arrearslaw20_sameBatch.f k bt194.1 bt194.2.1 bt194.2.2.1 bt210.1 bt210.2.1 bt210.2.2.1).bind fun t218 => (if t218 = true then (if bt194.2.2.2.1 = bt210.2.2.2.1 then (if bt194.2.2.2.2 = bt210.2.2.2.2 then ((arrearslaw19_CopyBytes.f k l0).bind fun t219 => (if t219.length + 3 < 140737488355328 then ((arrearslaw19_SameBytes.f (t181 ++ [90, 91, 92]) (t219 ++ [90, 91, 92])).bind fun t228 => (arrearslaw20_LockboxReads.j0 k (t181 ++ [90, 91, 92]) ((t181 ++ [90, 91, 92]).take ((l0.length : Int) : Int).toNat) (!t228) bt194.1 bt194.2.1 bt194.2.2.1 bt202.1 bt202.2.1 bt202.2.2.1 bt210.1 bt210.2.1 bt210.2.2.1)) else (none))) else (arrearslaw20_LockboxReads.j0 k (t181 ++ [90, 91, 92]) ((t181 ++ [90, 91, 92]).take ((l0.length : Int) : Int).toNat) true bt194.1 bt194.2.1 bt194.2.2.1 bt202.1 bt202.2.1 bt202.2.2.1 bt210.1 bt210.2.1 bt210.2.2.1)) else (arrearslaw20_LockboxReads.j0 k (t181 ++ [90, 91, 92]) ((t181 ++ [90, 91, 92]).take ((l0.length : Int) : Int).toNat) true bt194.1 bt194.2.1 bt194.2.2.1 bt202.1 bt202.2.1 bt202.2.2.1 bt210.1 bt210.2.1 bt210.2.2.1)) else (arrearslaw20_LockboxReads.j0 k (t181 ++ [90, 91, 92]) ((t181 ++ [90, 91, 92]).take ((l0.length : Int) : Int).toNat) true bt194.1 bt194.2.1 bt194.2.2.1 bt202.1 bt202.2.1 bt202.2.2.1 bt210.1 bt210.2.1 bt210.2.2.1)))))) else (none)) else (none)))) (fun k => ?_) ?_
    · show arrearslaw20_LockboxReads.f k l0 = _
      unfold arrearslaw20_LockboxReads.f
      rw [if_neg hl]
      have h0 : (0 : Int) ≤ (l0.length : Int) := by omega
      simp only [Option.bind_some, h0, if_true, List.length_cons, List.length_nil]
    · refine Ev.bind (copy_ev l0 (by omega)) ?_
      refine Ev.congr (f := fun k => ((arrearsref20_Parse.f k l0).bind fun bt210 => ((arrearslaw20_sameBatch.f k p.1 p.2.1 p.2.2.1 bt210.1 bt210.2.1 bt210.2.2.1).bind fun t218 => (if t218 = true then (if p.2.2.2.1 = bt210.2.2.2.1 then (if p.2.2.2.2 = bt210.2.2.2.2 then ((arrearslaw19_CopyBytes.f k l0).bind fun t219 => (if t219.length + 3 < 140737488355328 then ((arrearslaw19_SameBytes.f (l0 ++ [90, 91, 92]) (t219 ++ [90, 91, 92])).bind fun t228 => (arrearslaw20_LockboxReads.j0 k (l0 ++ [90, 91, 92]) l0 (!t228) p.1 p.2.1 p.2.2.1 p.1 p.2.1 p.2.2.1 bt210.1 bt210.2.1 bt210.2.2.1)) else (none))) else (arrearslaw20_LockboxReads.j0 k (l0 ++ [90, 91, 92]) l0 true p.1 p.2.1 p.2.2.1 p.1 p.2.1 p.2.2.1 bt210.1 bt210.2.1 bt210.2.2.1)) else (arrearslaw20_LockboxReads.j0 k (l0 ++ [90, 91, 92]) l0 true p.1 p.2.1 p.2.2.1 p.1 p.2.1 p.2.2.1 bt210.1 bt210.2.1 bt210.2.2.1)) else (arrearslaw20_LockboxReads.j0 k (l0 ++ [90, 91, 92]) l0 true p.1 p.2.1 p.2.2.1 p.1 p.2.1 p.2.2.1 bt210.1 bt210.2.1 bt210.2.2.1))))) (fun k => ?_) ?_
      · rw [if_pos (by omega), if_pos (by omega), htk, hp]
        simp only [Option.bind_some]
      · have hr := ref_ev l0 (by omega)
        rw [hP] at hr
        refine Ev.bind hr (f := fun k bt210 => ((arrearslaw20_sameBatch.f k p.1 p.2.1 p.2.2.1 bt210.1 bt210.2.1 bt210.2.2.1).bind fun t218 => (if t218 = true then (if p.2.2.2.1 = bt210.2.2.2.1 then (if p.2.2.2.2 = bt210.2.2.2.2 then ((arrearslaw19_CopyBytes.f k l0).bind fun t219 => (if t219.length + 3 < 140737488355328 then ((arrearslaw19_SameBytes.f (l0 ++ [90, 91, 92]) (t219 ++ [90, 91, 92])).bind fun t228 => (arrearslaw20_LockboxReads.j0 k (l0 ++ [90, 91, 92]) l0 (!t228) p.1 p.2.1 p.2.2.1 p.1 p.2.1 p.2.2.1 bt210.1 bt210.2.1 bt210.2.2.1)) else (none))) else (arrearslaw20_LockboxReads.j0 k (l0 ++ [90, 91, 92]) l0 true p.1 p.2.1 p.2.2.1 p.1 p.2.1 p.2.2.1 bt210.1 bt210.2.1 bt210.2.2.1)) else (arrearslaw20_LockboxReads.j0 k (l0 ++ [90, 91, 92]) l0 true p.1 p.2.1 p.2.2.1 p.1 p.2.1 p.2.2.1 bt210.1 bt210.2.1 bt210.2.2.1)) else (arrearslaw20_LockboxReads.j0 k (l0 ++ [90, 91, 92]) l0 true p.1 p.2.1 p.2.2.1 p.1 p.2.1 p.2.2.1 bt210.1 bt210.2.1 bt210.2.2.1)))) ?_
        refine Ev.bind (sameBatch_self p.1 p.2.1 p.2.2.1 (by omega)) (f := fun k t218 => (if t218 = true then (if p.2.2.2.1 = p.2.2.2.1 then (if p.2.2.2.2 = p.2.2.2.2 then ((arrearslaw19_CopyBytes.f k l0).bind fun t219 => (if t219.length + 3 < 140737488355328 then ((arrearslaw19_SameBytes.f (l0 ++ [90, 91, 92]) (t219 ++ [90, 91, 92])).bind fun t228 => (arrearslaw20_LockboxReads.j0 k (l0 ++ [90, 91, 92]) l0 (!t228) p.1 p.2.1 p.2.2.1 p.1 p.2.1 p.2.2.1 p.1 p.2.1 p.2.2.1)) else (none))) else (arrearslaw20_LockboxReads.j0 k (l0 ++ [90, 91, 92]) l0 true p.1 p.2.1 p.2.2.1 p.1 p.2.1 p.2.2.1 p.1 p.2.1 p.2.2.1)) else (arrearslaw20_LockboxReads.j0 k (l0 ++ [90, 91, 92]) l0 true p.1 p.2.1 p.2.2.1 p.1 p.2.1 p.2.2.1 p.1 p.2.1 p.2.2.1)) else (arrearslaw20_LockboxReads.j0 k (l0 ++ [90, 91, 92]) l0 true p.1 p.2.1 p.2.2.1 p.1 p.2.1 p.2.2.1 p.1 p.2.1 p.2.2.1))) ?_
        simp only [if_true]
        refine Ev.bind (copy_ev l0 (by omega)) (f := fun k t219 => (if t219.length + 3 < 140737488355328 then ((arrearslaw19_SameBytes.f (l0 ++ [90, 91, 92]) (t219 ++ [90, 91, 92])).bind fun t228 => (arrearslaw20_LockboxReads.j0 k (l0 ++ [90, 91, 92]) l0 (!t228) p.1 p.2.1 p.2.2.1 p.1 p.2.1 p.2.2.1 p.1 p.2.1 p.2.2.1)) else (none))) ?_
        refine Ev.congr (fun k => ?_) hj
        have hs : arrearslaw19_SameBytes.f (l0 ++ [90, 91, 92]) (l0 ++ [90, 91, 92]) = some true := by
          unfold arrearslaw19_SameBytes.f
          rw [if_pos (by omega)]; simp
        rw [if_pos (by omega), hs]
        rfl
end Go.Proofs.YtkjdmbbaacjpmaaDoor.Reads
end
section
namespace Go.Proofs.YtkjdmbbaacjpmaaDoor.Reads
open Go.RowKit Go.ChangeShapes Go.WideShapes Go.Proofs.YtkjdmbbaacjpmaaDoor.R Go.Proofs.YtkjdmbbaacjpmaaDoorW.PrintWords
theorem reads_walk {w : World} (A : Option Addr) (c : Nat) (l : List Int) (hr : Kd.C (Kd.int .u8) w A l.length l) (hc : l.length ≤ c) (hb : bytB l = true) (_w : World) (htab : R.Tab w) :
    Calls Tryd.prog 6 #[.slice A l.length c] w fun e w1 => e = .returned (.bool true) ∧ Below w.heap.size w w1 := by
  obtain ⟨k, hk⟩ := (reads_ev l hb).rounds
  exact arrearslaw20_LockboxReads.calls k A c l true w hr hc hk ⟨htab⟩
theorem wf_u8 {n : Int} (h : (Lit.int .u8 n).wf = true) : 0 ≤ n ∧ n ≤ 255 := by
  simp only [Lit.wf, Bool.and_eq_true, decide_eq_true_eq] at h
  have h1 : IntKind.u8.min = 0 := by decide
  have h2 : IntKind.u8.max = 255 := by decide
  rw [h1, h2] at h
  exact h
set_option maxRecDepth 100000 in
theorem open_bytes {H : Type} {enc : TypeId × Value → H} {W : World} {base b0 : Nat} {r : Reach} {v : Value} {d : DataW H} {p : List MemPlace}
    (hv : Value.okWide Tryd.prog W r b0 26 v) (h : DataW.Trod enc Tryd.prog W base (fun _ => true) true 26 v d p) :
    ∃ (A : Option Addr) (c : Nat) (l : List Int), v = .slice A l.length c ∧ Kd.C (Kd.int .u8) W A l.length l ∧ l.length ≤ c ∧ bytB l = true := by
  obtain ⟨a0, len0, cap0, rfl⟩ := okWide_slice Tryd.underlying26 hv
  obtain ⟨fuel, hf⟩ := h
  rcases open_ints Tryd.underlying26 Tryd.underlying5 (by kernel_rfl) hf with ⟨hcs, _⟩ | ⟨x, n, c, zs, hcs, _, hl, hm, hz, _, hcell, hwz⟩
  · simp [Value.cells] at hcs
    obtain ⟨rfl, rfl, rfl⟩ := hcs
    exact ⟨none, 0, [], rfl, Kd.C_nil _ _, by simp, rfl⟩
  · simp [Value.cells] at hcs
    obtain ⟨rfl, rfl, rfl⟩ := hcs
    simp only [if_true] at hz
    have hln : (zs.take len0).length = len0 := by rw [List.length_take]; omega
    refine ⟨some x, cap0, zs.take len0, by rw [hln], Kd.C_of_reads (h1 := fun _ => rfl) (d := (0 : Int)) ⟨rfl, ?_, fun _ => ⟨x, rfl, fun j hj => ?_⟩⟩, by omega, ?_⟩
    · rw [hln]; simp only [maxLen] at hm; omega
    · rw [hln] at hj
      rw [hcell j (by omega)]
      congr 2
      rw [List.getD_eq_getElem?_getD, List.getD_eq_getElem?_getD, List.getElem?_take_of_lt hj]
    · unfold bytB
      rw [List.all_eq_true]
      intro y hy
      rw [decide_eq_true_eq]
      exact wf_u8 (hwz y (List.mem_of_mem_take hy))
end Go.Proofs.YtkjdmbbaacjpmaaDoor.Reads
end
