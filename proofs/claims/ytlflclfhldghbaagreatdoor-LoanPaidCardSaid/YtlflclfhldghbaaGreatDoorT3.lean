-- Texts of this claim, joined and cut down to what it uses (a program of this session).
import Derived.Test.YtlflclfhldghbaaGreatDoorT2
import Derived.Scope
import Derived.Laws.Sem
set_option linter.unusedVariables false
set_option linter.unusedSimpArgs false
set_option linter.unnecessarySimpa false
section
namespace Go.Proofs.YtlflclfhldghbaaGreatDoor.Ls
open Go
section
variable {T : TypeId → VS} {cx : Cx T}
theorem VR.rebound {E E' : Emb} {N n : Nat} {v c : Value} (h : VR E N v c) : ∀ {c' : Value}, VR E' n v c' → VR E n v c := by
  induction h with
  | any v => intro c' _; exact .any v
  | scal v h => intro c' _; exact .scal v h
  | ptr a h => intro c' k; exact .ptr a (ptr_ok k)
  | wsl id c h hc hl => intro c' k; exact .wsl id c (slice_ok k) hc hl
  | wsl0 id x h hn => intro c' k; exact .wsl0 id x (slice_ok k) hn
  | gsl id o n' c c' h hn hc hN hl => intro c'' k; exact .gsl id o n' c c' (slice_ok k) hn hc hN hl
  | gsl0 id o x h hN => intro c' k; exact .gsl0 id o x (slice_ok k) hN
  | fsl id o n' c h hn hc => intro c' k; exact .fsl id o n' c (slice_ok k) hn hc
  | func fn fs fs' cs cs' h1 h2 h3 h4 ih2 ih4 =>
    intro c' k
    cases k with
    | scal _ hs => simp [scalar] at hs
    | func _ _ gs _ ds k1 k2 k3 k4 =>
      refine .func _ _ _ _ _ h1 (fun i v v' hv hv' => ?_) h3 (fun i v v' hv hv' => ?_)
      · obtain ⟨u, hu⟩ : ∃ u, gs[i]? = some u := by
          have := (Array.getElem?_eq_some_iff.1 hv).1
          exact ⟨gs[i], by simp [← k1, this]⟩
        exact ih2 i v v' hv hv' (k2 i v u hv hu)
      · obtain ⟨u, hu⟩ : ∃ u, ds[i]? = some u := by
          have := (Array.getElem?_eq_some_iff.1 hv).1
          exact ⟨ds[i], by simp [← k3, this]⟩
        exact ih4 i v v' hv hv' (k4 i v u hv hu)
  | iface t v v' h ih =>
    intro c' k
    cases k with
    | scal _ hs => simp [scalar] at hs
    | iface _ _ u k => exact .iface t v v' (ih k)
  | agg cs cs' h1 h2 ih =>
    intro c' k
    cases k with
    | scal _ hs => simp [scalar] at hs
    | agg _ ds k1 k2 =>
      refine .agg _ _ h1 (fun i v v' hv hv' => ?_)
      obtain ⟨u, hu⟩ : ∃ u, ds[i]? = some u := by
        have := (Array.getElem?_eq_some_iff.1 hv).1
        exact ⟨ds[i], by simp [← k1, this]⟩
      exact ih i v v' hv hv' (k2 i v u hv hu)
  | tup cs cs' h1 h2 ih =>
    intro c' k
    cases k with
    | any => exact .any _
    | scal _ hs => simp [scalar] at hs
    | tup _ ds k1 k2 =>
      refine .tup _ _ h1 (fun i v v' hv hv' => ?_)
      obtain ⟨u, hu⟩ : ∃ u, ds[i]? = some u := by
        have := (Array.getElem?_eq_some_iff.1 hv).1
        exact ⟨ds[i], by simp [← k1, this]⟩
      exact ih i v v' hv hv' (k2 i v u hv hu)
  | skip => intro c' _; exact .skip
theorem addN_mem {i j : Nat} {l : List Nat} : j ∈ addN i l ↔ j = i ∨ j ∈ l := by
  unfold addN
  split
  · rename_i h
    have := memN_iff.1 h
    constructor
    · intro h; exact .inr h
    · rintro (rfl | h); exact this; exact h
  · simp
theorem unionN_mem {j : Nat} : ∀ {l m : List Nat}, j ∈ unionN l m ↔ j ∈ l ∨ j ∈ m
  | [], m => by simp [unionN]
  | i :: r, m => by
    unfold unionN
    rw [unionN_mem (l := r), addN_mem]
    simp
    constructor
    · rintro (h | h | h)
      · exact .inl (.inr h)
      · exact .inl (.inl h)
      · exact .inr h
    · rintro ((h | h) | h)
      · exact .inr (.inl h)
      · exact .inl h
      · exact .inr (.inr h)
theorem freshKeys_acc : ∀ (k : Nat) (e : List (Nat × Value)) (acc : List Nat), ∀ t ∈ acc, t ∈ freshKeys k e acc
  | 0, e, acc => fun t h => by cases e <;> exact h
  | k + 1, [], acc => fun t h => h
  | k + 1, (u, v) :: r, acc => fun t h => freshKeys_acc k r (addN u acc) t (addN_mem.2 (.inr h))
theorem freshKeys_mem : ∀ (k : Nat) (news e : List (Nat × Value)) (acc : List Nat), news.length = k → ∀ p ∈ news, p.1 ∈ freshKeys k (news ++ e) acc
  | 0, news, e, acc, h => fun p hp => by rw [List.eq_nil_of_length_eq_zero h] at hp; cases hp
  | k + 1, [], e, acc, h => fun p hp => by cases hp
  | k + 1, (u, v) :: r, e, acc, h => fun p hp => by
    simp only [List.cons_append, freshKeys]
    simp at hp
    rcases hp with rfl | hp
    · exact freshKeys_acc k _ _ _ (addN_mem.2 (.inl rfl))
    · exact freshKeys_mem k r e _ (by simpa using h) p hp
theorem mergeEnv_get (b : Bool) (n : Nat) (e1 e2 : List (Nat × Value)) (m : List (Nat × Value)) (t : Nat) : ∀ (ks : List Nat), getE (mergeEnv b n e1 e2 ks ++ m) t = if t ∈ ks then mergeV b n (getE e1 t) (getE e2 t) else getE m t
  | [] => by simp [mergeEnv]
  | k :: r => by
    simp only [mergeEnv, List.cons_append, getE_cons]
    rw [mergeEnv_get b n e1 e2 m t r]
    by_cases h : k = t
    · subst h; simp
    · rw [if_neg h]
      have : t ≠ k := fun e => h e.symm
      simp [this]
theorem mergeHeap_len (b : Bool) (n : Nat) (D : List Nat) : ∀ (i : Nat) (h h1 h2 : List (Ob T)), (mergeHeap b n D i h h1 h2).length = h.length
  | _, [], h1, h2 => by simp [mergeHeap]
  | i, o :: r, h1, h2 => by simp [mergeHeap, mergeHeap_len b n D (i + 1) r h1.tail h2.tail]
theorem tail_get {α : Type} (l : List α) (k : Nat) : l.tail[k]? = l[k + 1]? := by cases l <;> simp
theorem mergeHeap_get (b : Bool) (n : Nat) (D : List Nat) : ∀ (i : Nat) (h h1 h2 : List (Ob T)) (k : Nat) (o : Ob T), h[k]? = some o →
    (mergeHeap b n D i h h1 h2)[k]? = some (match memN (i + k) D with
      | true => match h1[k]? with
        | some x => (match h2[k]? with | some y => mergeOb b n x y | none => .dead)
        | none => .dead
      | false => o)
  | _, [], h1, h2, k, o, h => by simp at h
  | i, p :: r, h1, h2, 0, o, h => by
    simp at h; subst h
    simp only [mergeHeap, List.getElem?_cons_zero, Nat.add_zero]
    cases h1 <;> cases h2 <;> rfl
  | i, p :: r, h1, h2, k + 1, o, h => by
    simp only [mergeHeap, List.getElem?_cons_succ]
    rw [mergeHeap_get b n D (i + 1) r h1.tail h2.tail k o (by simpa using h), tail_get, tail_get, show i + (k + 1) = i + 1 + k by omega]
structure Joined (cx : Cx T) (E : Emb) (st : St T) (w : World) (E1 : Emb) (x : St T) (a : Act) (w1 : World) : Prop where
  str : StR cx E1 x a w1
  stp : Stp cx.glob E st w E1 x w1
  env : ∃ news, x.env = news ++ st.env
theorem merge_ob {E1 : Emb} {N n id : Nat} {w1 : World} {b : Bool} {x y : Ob T} (hx : ObR E1 N id w1 (if b then x else y)) : ObR E1 n id w1 (mergeOb b n x y) ∧ (solid E1 id (mergeOb b n x y) → solid E1 id (if b then x else y)) ∧ (solid0 E1 id (mergeOb b n x y) → solid0 E1 id (if b then x else y)) := by
  unfold mergeOb
  split
  · rename_i cs cs'
    split
    · rename_i l hl
      have hx' : ObR E1 N id w1 (if b then (Ob.flat cs : Ob T) else .flat cs') := hx
      cases b with
      | true =>
        obtain ⟨c, e, h1, h2, h3⟩ := hx'
        refine ⟨⟨c, e, h1, ?_, ?_⟩, fun _ => trivial, fun _ => trivial⟩
        all_goals
          have hpw : PW E1 N cs ((List.range cs.length).map fun j => c.getD ((E1 id).base + j) undef) := ⟨by simp, fun j v v' hv hv' => by
            have hj := (List.getElem?_eq_some_iff.1 hv).1
            obtain ⟨u, q1, q2⟩ := h3 j v hv
            simp [hj, q1] at hv'
            subst hv'; exact q2⟩
          have hm := mergeL_true (n := n) hl hpw
        · rw [hm.1]; simpa using h2
        · intro i v hv
          obtain ⟨v', r1, r2⟩ := hm.get hv
          have hj : i < cs.length := by have := (List.getElem?_eq_some_iff.1 r1).1; simpa using this
          obtain ⟨u, q1, _⟩ := h3 i _ (List.getElem?_eq_getElem hj)
          simp [hj, q1] at r1
          subst r1
          exact ⟨u, q1, r2⟩
      | false =>
        obtain ⟨c, e, h1, h2, h3⟩ := hx'
        refine ⟨⟨c, e, h1, ?_, ?_⟩, fun _ => trivial, fun _ => trivial⟩
        all_goals
          have hpw : PW E1 N cs' ((List.range cs'.length).map fun j => c.getD ((E1 id).base + j) undef) := ⟨by simp, fun j v v' hv hv' => by
            have hj := (List.getElem?_eq_some_iff.1 hv).1
            obtain ⟨u, q1, q2⟩ := h3 j v hv
            simp [hj, q1] at hv'
            subst hv'; exact q2⟩
          have hm := mergeL_false (n := n) hl hpw
        · rw [hm.1]; simpa using h2
        · intro i v hv
          obtain ⟨v', r1, r2⟩ := hm.get hv
          have hj : i < cs'.length := by have := (List.getElem?_eq_some_iff.1 r1).1; simpa using this
          obtain ⟨u, q1, _⟩ := h3 i _ (List.getElem?_eq_getElem hj)
          simp [hj, q1] at r1
          subst r1
          exact ⟨u, q1, r2⟩
    · exact ⟨trivial, fun h => h.elim, fun h => h.elim⟩
  · rename_i wr e xs wr' e' ys
    split
    · rename_i zs hz
      obtain ⟨he, hyz⟩ := castRow_eq hz
      subst he
      simp at hyz; subst hyz
      cases b with
      | true =>
        obtain ⟨h1, h2, h3, h4, h5⟩ : ObR E1 N id w1 (Ob.row wr e' xs : Ob T) := hx
        refine ⟨⟨h1, h2, h3, h4, h5.imp (fun h => h) (fun ⟨c, t, fr, q1, q2, q3⟩ => ⟨c, t, fr, q1, fun hw => q2 (by simp at hw; exact hw.1), q3⟩)⟩, fun h => h, fun h => h⟩
      | false =>
        obtain ⟨h1, h2, h3, h4, h5⟩ : ObR E1 N id w1 (Ob.row wr' e' ys : Ob T) := hx
        refine ⟨⟨h1, h2, h3, h4, h5.imp (fun h => h) (fun ⟨c, t, fr, q1, q2, q3⟩ => ⟨c, t, fr, q1, fun hw => q2 (by simp at hw; exact hw.2), q3⟩)⟩, fun h => h, fun h => h⟩
    · exact ⟨trivial, fun h => h.elim, fun h => h.elim⟩
  · exact ⟨trivial, fun h => h.elim, fun h => h.elim⟩
theorem ObR.rebound {E E' : Emb} {N n id : Nat} {w w' : World} {o : Ob T} (h : ObR E N id w o) (k : ObR E' n id w' o) : ObR E n id w o := by
  cases o with
  | dead => trivial
  | flat cs =>
    obtain ⟨c, e, h1, h2, h3⟩ := h
    obtain ⟨d, f, k1, k2, k3⟩ := k
    refine ⟨c, e, h1, h2, fun i v hv => ?_⟩
    obtain ⟨v', q1, q2⟩ := h3 i v hv
    obtain ⟨u, r1, r2⟩ := k3 i v hv
    exact ⟨v', q1, q2.rebound r2⟩
  | row wr e xs => exact h
theorem mergeSt_sound {E : Emb} {st : St T} {a0 : Act} {w : World} (hR : StR cx E st a0 w) {b : Bool} {s1 s2 : St T} {E1 : Emb} {a : Act} {w1 : World} (h : Joined cx E st w E1 (if b then s1 else s2) a w1) : Joined cx E st w E1 (mergeSt b st s1 s2) a w1 := by
  have hdirty : ∀ j, j ∈ (if b then s1 else s2).dirty → j ∈ (mergeSt b st s1 s2).dirty := by
    intro j hj
    show j ∈ unionN s1.dirty s2.dirty
    rw [unionN_mem]
    cases b
    · exact .inr hj
    · exact .inl hj
  have hlen : (mergeSt b st s1 s2).heap.length = st.heap.length := mergeHeap_len _ _ _ _ _ _ _
  have hob : ∀ k ob, (mergeSt b st s1 s2).heap[k]? = some ob → ObR E1 st.heap.length k w1 ob ∧ (solid0 E1 k ob → ∃ ob', (if b then s1 else s2).heap[k]? = some ob' ∧ solid0 E1 k ob' ∧ (solid E1 k ob → solid E1 k ob')) := by
    intro k ob hk
    have hk' : k < st.heap.length := by rw [← hlen]; exact (List.getElem?_eq_some_iff.1 hk).1
    have hkg : k < GB := Nat.lt_of_lt_of_le hk' hR.sim.le
    have hg := mergeHeap_get b st.heap.length (unionN s1.dirty s2.dirty) 0 st.heap s1.heap s2.heap k _ (List.getElem?_eq_getElem hk')
    have hk2 : (mergeHeap b st.heap.length (unionN s1.dirty s2.dirty) 0 st.heap s1.heap s2.heap)[k]? = some ob := hk
    rw [hg] at hk2
    simp only [Nat.zero_add, Option.some.injEq] at hk2
    split at hk2
    · split at hk2
      · rename_i x hx
        split at hk2
        · rename_i y hy
          subst hk2
          have hside : (if b then s1 else s2).heap[k]? = some (if b then x else y) := by cases b; exact hy; exact hx
          have := h.str.sim.ob k _ (by rw [lookO_lt hkg]; exact hside)
          obtain ⟨m1, m2, m3⟩ := merge_ob (n := st.heap.length) this
          exact ⟨m1, fun hs => ⟨_, hside, m3 hs, m2⟩⟩
        · subst hk2; exact ⟨trivial, fun h => h.elim⟩
      · subst hk2; exact ⟨trivial, fun h => h.elim⟩
    · rename_i hm
      have hnd : k ∉ (if b then s1 else s2).dirty := by
        have hn : k ∉ unionN s1.dirty s2.dirty := memN_false hm
        intro hd
        exact hn (hdirty k hd)
      have hkept := h.stp.kept k hk' hnd
      have q1 : st.heap[k]? = some ob := by rw [List.getElem?_eq_getElem hk', hk2]
      rw [q1] at hkept
      have h1 := h.str.sim.ob k ob (by rw [lookO_lt hkg]; exact hkept)
      have h2 := hR.sim.ob k ob (by rw [lookO_lt hkg]; exact q1)
      exact ⟨h1.rebound h2, fun hs => ⟨ob, hkept, hs, fun h => h⟩⟩
  have look : ∀ j ob, lookO cx.glob (mergeSt b st s1 s2).heap j = some ob → (GB ≤ j ∧ lookO cx.glob (if b then s1 else s2).heap j = some ob) ∨ (j < GB ∧ (mergeSt b st s1 s2).heap[j]? = some ob) := by
    intro j ob hj
    by_cases hg : GB ≤ j
    · rw [lookO_ge hg] at hj; exact .inl ⟨hg, by rw [lookO_ge hg]; exact hj⟩
    · rw [lookO_lt (by omega)] at hj; exact .inr ⟨by omega, hj⟩
  have hsim : Sim cx.glob E1 (mergeSt b st s1 s2).heap w1 := by
    refine ⟨by rw [hlen]; exact hR.sim.le, ?_, ?_, h.str.sim.glo, h.str.sim.gok⟩
    · intro j ob hj
      rw [hlen]
      rcases look j ob hj with ⟨hg, hj'⟩ | ⟨_, hj'⟩
      · have h1 := h.str.sim.ob j ob hj'
        have h2 := hR.sim.ob j ob (by rw [lookO_ge hg] at hj' ⊢; exact hj')
        exact h1.rebound h2
      · exact (hob j ob hj').1
    · intro i j oi oj hij hi hj hsi hsj
      have back : ∀ k ok, lookO cx.glob (mergeSt b st s1 s2).heap k = some ok → solid0 E1 k ok → ∃ ok', lookO cx.glob (if b then s1 else s2).heap k = some ok' ∧ solid0 E1 k ok' ∧ (solid E1 k ok → solid E1 k ok') := by
        intro k ok hk hs
        rcases look k ok hk with ⟨hg, hk'⟩ | ⟨hg, hk'⟩
        · exact ⟨ok, hk', hs, fun h => h⟩
        · obtain ⟨ok', q1, q2⟩ := (hob k ok hk').2 hs
          exact ⟨ok', by rw [lookO_lt hg]; exact q1, q2⟩
      obtain ⟨oi', hi', hsi', _⟩ := back i oi hi hsi
      obtain ⟨oj', hj', _, hsj'⟩ := back j oj hj hsj.to0
      exact h.str.sim.sep i j oi' oj' hij hi' hj' hsi' (hsj' hsj)
  refine ⟨⟨hsim, ?_, h.str.size⟩, ⟨hsim, by rw [hlen]; exact Nat.le_refl _, h.stp.agr, h.stp.os, h.stp.tape, h.stp.out, h.stp.size, fun c hc hD => h.stp.frame c hc (fun id hid hl hlv => hD id (hdirty id hid) hl hlv), fun id h1 h2 _ => by rw [hlen] at h2; omega, ?_, fun id hid => hdirty id (h.stp.mono id hid), rfl, fun id hid => ⟨fun ⟨o, ho, hs⟩ => (fun ⟨o', q1, _, q2⟩ => (h.stp.dead id hid).1 ⟨o', q1, q2 hs⟩) ((hob id o ho).2 hs.to0), fun ⟨o, ho, hs⟩ => (fun ⟨o', q1, q2, _⟩ => (h.stp.dead id hid).2 ⟨o', q1, q2⟩) ((hob id o ho).2 hs)⟩⟩, ⟨_, rfl⟩⟩
  · intro t
    rw [hlen]
    show VR E1 st.heap.length (getE (mergeEnv b st.heap.length s1.env s2.env _ ++ st.env) t) _
    rw [mergeEnv_get]
    split
    · have := h.str.env t
      cases b with
      | true => exact mergeV_true this
      | false => exact mergeV_false this
    · rename_i hnk
      obtain ⟨news, hn⟩ := h.env
      have hget : getE (if b then s1 else s2).env t = getE st.env t := by
        rw [hn]
        refine getE_append t news st.env (fun p hp e => hnk ?_)
        subst e
        cases b with
        | true =>
          refine freshKeys_acc _ _ _ _ ?_
          have e : s1.env = news ++ st.env := hn
          rw [e]
          exact freshKeys_mem _ news st.env [] (by simp) p hp
        | false =>
          have e : s2.env = news ++ st.env := hn
          rw [e]
          exact freshKeys_mem _ news st.env _ (by simp) p hp
      have h1 := h.str.env t
      rw [hget] at h1
      exact h1.rebound (hR.env t)
  · intro id hid hD
    have hm : memN id (unionN s1.dirty s2.dirty) = false := by
      cases hb : memN id (unionN s1.dirty s2.dirty) with
      | false => rfl
      | true => exact absurd (memN_iff.1 hb) hD
    have hg := mergeHeap_get b st.heap.length (unionN s1.dirty s2.dirty) 0 st.heap s1.heap s2.heap id _ (List.getElem?_eq_getElem hid)
    simp only [Nat.zero_add, hm] at hg
    rw [List.getElem?_eq_getElem hid]
    exact hg
end
end Go.Proofs.YtlflclfhldghbaaGreatDoor.Ls
end
section
namespace Go.Proofs.YtlflclfhldghbaaGreatDoor.Ls
open Go
section
variable {T : TypeId → VS} {cx : Cx T}
def Stop.state : Stop T → St T
  | .done st => st
  | .exit _ st => st
  | .ret st => st
  | .pan _ st => st
  | .cut _ st => st
theorem joinT_pick {st : St T} : ∀ (t : Tr (Stop T)) {s : Stop T}, (joinT st t).pick = some s → ∃ s0, t.pick = some s0 ∧ (s0 = s ∨ ∃ x y, s0 = .done x ∧ s = .done y ∧ y.ok = x.ok ∧ x.gen = st.gen ∧ y.gen = st.gen ∧ (∃ news, y.env = news ++ st.env) ∧
    (∀ {E E1 : Emb} {a0 a : Act} {w w1 : World}, StR cx E st a0 w → Joined cx E st w E1 x a w1 → Joined cx E st w E1 y a w1))
  | .fail, s, h => (pick_fail h).elim
  | .leaf s0, s, h => ⟨s, h, .inl rfl⟩
  | .node b t e, s, h => by
    have iht := joinT_pick t (st := st) (s := s)
    have ihe := joinT_pick e (st := st) (s := s)
    simp only [joinT] at h
    split at h
    · rename_i s1 s2 h1 h2
      split at h
      · rename_i hg
        simp at hg
        obtain ⟨hg1, hg2⟩ := hg
        have := pick_leaf h; subst this
        cases b with
        | true =>
          obtain ⟨s0, q1, q2⟩ := joinT_pick t (st := st) (s := .done s1) (by rw [h1]; rfl)
          refine ⟨s0, q1, .inr ?_⟩
          rcases q2 with rfl | ⟨x, y, rfl, e, r1, r2, r3, _, r4⟩
          · exact ⟨s1, _, rfl, rfl, rfl, hg1, rfl, ⟨_, rfl⟩, fun hR hJ => mergeSt_sound hR (b := true) hJ⟩
          · cases e
            exact ⟨x, _, rfl, rfl, r1, r2, rfl, ⟨_, rfl⟩, fun hR hJ => mergeSt_sound hR (b := true) (r4 hR hJ)⟩
        | false =>
          obtain ⟨s0, q1, q2⟩ := joinT_pick e (st := st) (s := .done s2) (by rw [h2]; rfl)
          refine ⟨s0, q1, .inr ?_⟩
          rcases q2 with rfl | ⟨x, y, rfl, e, r1, r2, r3, _, r4⟩
          · exact ⟨s2, _, rfl, rfl, rfl, hg2, rfl, ⟨_, rfl⟩, fun hR hJ => mergeSt_sound hR (b := false) hJ⟩
          · cases e
            exact ⟨x, _, rfl, rfl, r1, r2, rfl, ⟨_, rfl⟩, fun hR hJ => mergeSt_sound hR (b := false) (r4 hR hJ)⟩
      · cases b with
        | true => exact iht (by rw [h1]; exact h)
        | false => exact ihe (by rw [h2]; exact h)
    · cases b with
      | true => exact iht h
      | false => exact ihe h
theorem joinR_pick {id : Nat} {st : St T} : ∀ (t : Tr (Stop T)) {s : Stop T}, (joinR cx id st t).pick = some s → ∃ s0, t.pick = some s0 ∧ (s0 = s ∨ ∃ x y, s0 = .done x ∧ s = .done y ∧ y.ok = x.ok ∧ x.gen = st.gen ∧ y.gen = st.gen ∧ (∃ news, y.env = news ++ st.env) ∧
    (∀ {E E1 : Emb} {a0 a : Act} {w w1 : World}, StR cx E st a0 w → Joined cx E st w E1 x a w1 → Joined cx E st w E1 y a w1)) := by
  intro t s h
  unfold joinR at h
  split at h
  · exact ⟨s, h, .inl rfl⟩
  · exact joinT_pick t h
theorem joinSS_pick {ef : List Eff} {sh : SS} : ∀ (t : Tr (Stop T)) {s : Stop T}, (joinSS cx.glob ef sh t).pick = some s → ∃ s0, t.pick = some s0 ∧ (s0 = s ∨ ∃ x y, s0 = .done x ∧ s = .done y ∧ y.ok = x.ok ∧ x.gen < y.gen ∧
    (∀ {E0 : Emb} {w0 : World} {H0 : List (Ob T)} {G : List Nat} {E : Emb} {a : Act} {w : World}, CR cx ef E0 w0 H0 G E x a w → ∃ E', CR cx ef E0 w0 H0 G E' y a w))
  | .fail, s, h => (pick_fail h).elim
  | .leaf s0, s, h => ⟨s, h, .inl rfl⟩
  | .node b t e, s, h => by
    have iht := joinSS_pick t (ef := ef) (sh := sh) (s := s)
    have ihe := joinSS_pick e (ef := ef) (sh := sh) (s := s)
    simp only [joinSS] at h
    split at h
    · rename_i s1 s2 h1 h2
      split at h
      · rename_i v1 v2 d1 d2
        have := pick_leaf h; subst this
        cases b with
        | true =>
          obtain ⟨s0, q1, q2⟩ := joinSS_pick t (ef := ef) (sh := sh) (s := .done s1) (by rw [h1]; rfl)
          refine ⟨s0, q1, .inr ?_⟩
          have key : ∀ {E0 : Emb} {w0 : World} {H0 : List (Ob T)} {G : List Nat} {E : Emb} {a : Act} {w : World}, CR cx ef E0 w0 H0 G E s1 a w → ∃ E', CR cx ef E0 w0 H0 G E' { sh.st (s1.gen + s2.gen + 1) v1 with ok := s1.ok } a w := by
            intro E0 w0 H0 G E a w hc
            obtain ⟨E', h⟩ := SS_dec_sound hc d1 (s1.gen + s2.gen + 1)
            exact ⟨E', h.of rfl rfl (fun _ h => h)⟩
          rcases q2 with rfl | ⟨x, y, rfl, e, r1, r2, r3⟩
          · exact ⟨s1, _, rfl, rfl, rfl, by show s1.gen < s1.gen + s2.gen + 1; omega, key⟩
          · cases e
            refine ⟨x, _, rfl, rfl, r1, by show x.gen < s1.gen + s2.gen + 1; omega, fun hc => ?_⟩
            obtain ⟨E1, h1⟩ := r3 hc
            exact key h1
        | false =>
          obtain ⟨s0, q1, q2⟩ := joinSS_pick e (ef := ef) (sh := sh) (s := .done s2) (by rw [h2]; rfl)
          refine ⟨s0, q1, .inr ?_⟩
          have key : ∀ {E0 : Emb} {w0 : World} {H0 : List (Ob T)} {G : List Nat} {E : Emb} {a : Act} {w : World}, CR cx ef E0 w0 H0 G E s2 a w → ∃ E', CR cx ef E0 w0 H0 G E' { sh.st (s1.gen + s2.gen + 1) v2 with ok := s2.ok } a w := by
            intro E0 w0 H0 G E a w hc
            obtain ⟨E', h⟩ := SS_dec_sound hc d2 (s1.gen + s2.gen + 1)
            exact ⟨E', h.of rfl rfl (fun _ h => h)⟩
          rcases q2 with rfl | ⟨x, y, rfl, e, r1, r2, r3⟩
          · exact ⟨s2, _, rfl, rfl, rfl, by show s2.gen < s1.gen + s2.gen + 1; omega, key⟩
          · cases e
            refine ⟨x, _, rfl, rfl, r1, by show x.gen < s1.gen + s2.gen + 1; omega, fun hc => ?_⟩
            obtain ⟨E1, h1⟩ := r3 hc
            exact key h1
      · exact (pick_fail h).elim
    · cases b with
      | true => exact iht h
      | false => exact ihe h
def LoopW (P : Program) (c : Code) (Q : Exit → Act → World → Prop) (a : Act) (w : World) : Prop :=
  ∀ (b : Frame) (k : List Item) (cs : List Frame), ∃ e a' w', Q e a' w' ∧ Arrives P (lone (b.at a (.code c :: .inLoop c :: k)) cs w) b k cs e a' w'
theorem wp_loopW {P : Program} {c : Code} {Q : Exit → Act → World → Prop} {a : Act} {w : World} (h : LoopW P c Q a w) : (Code.loop c).wp P Q a w := by
  intro b k cs
  obtain ⟨e, a', w', hq, harr⟩ := h b k cs
  exact ⟨e, a', w', hq, .of_steps (.one step_loop) harr⟩
theorem loopW_round {P : Program} {c : Code} {Q : Exit → Act → World → Prop} {a : Act} {w : World} (h : c.wp P (Exit.then (LoopW P c Q) Q) a w) : LoopW P c Q a w := by
  intro b k cs
  obtain ⟨e, a₁, w₁, hq, harr⟩ := h b (.inLoop c :: k) cs
  cases e with
  | normal =>
    obtain ⟨e₂, a₂, w₂, hq₂, harr₂⟩ := hq b k cs
    exact ⟨e₂, a₂, w₂, hq₂, .of_steps (Steps.trans harr (.one step_inLoop)) harr₂⟩
  | exit id => exact ⟨_, a₁, w₁, hq, .pass (x := .inLoop c) rfl (fun _ _ => .inl (by simp)) harr⟩
  | goto l => exact ⟨_, a₁, w₁, hq, .pass (x := .inLoop c) rfl (fun _ _ => .inl (by simp)) harr⟩
  | ret => exact ⟨_, a₁, w₁, hq, .pass (x := .inLoop c) rfl (fun _ _ => .inl (by simp)) harr⟩
  | panic ch => exact ⟨_, a₁, w₁, hq, .pass (x := .inLoop c) rfl (fun _ _ => .inl (by simp)) harr⟩
  | outgrown => exact ⟨_, a₁, w₁, hq, .pass (x := .inLoop c) rfl (fun _ _ => .inl (by simp)) harr⟩
def postK (P : Program) : List It → (Exit → Act → World → Prop) → Exit → Act → World → Prop
  | [], Q => Q
  | .code c :: r, Q => Exit.then (c.wp P (postK P r Q)) (postK P r Q)
  | .inBlock id :: r, Q => Exit.inBlock id (postK P r Q)
  | .inScope :: r, Q => Exit.noGoto (postK P r Q)
  | .loop c :: r, Q => Exit.then (LoopW P c (postK P r Q)) (postK P r Q)
theorem postK_append (P : Program) (Q : Exit → Act → World → Prop) (m : List It) : ∀ (l : List It), postK P (l ++ m) Q = postK P l (postK P m Q)
  | [] => rfl
  | .code c :: r => by simp only [List.cons_append, postK]; rw [postK_append P Q m r]
  | .inBlock id :: r => by simp only [List.cons_append, postK]; rw [postK_append P Q m r]
  | .inScope :: r => by simp only [List.cons_append, postK]; rw [postK_append P Q m r]
  | .loop c :: r => by simp only [List.cons_append, postK]; rw [postK_append P Q m r]
def StopK (cx : Cx T) (ef : List Eff) (E0 : Emb) (w0 : World) (H0 : List (Ob T)) (G : List Nat) (E : Emb) (st : St T) (a : Act) (w : World) (Q : Exit → Act → World → Prop) : Stop T → Prop
  | .done st' => ∀ a' w' E', a'.defers = a.defers → CR cx ef E0 w0 H0 G E' st' a' w' → (st'.gen = st.gen → Stp cx.glob E st w E' st' w') → Q .normal a' w'
  | .exit id st' => ∀ a' w' E', a'.defers = a.defers → CR cx ef E0 w0 H0 G E' st' a' w' → (st'.gen = st.gen → Stp cx.glob E st w E' st' w') → Q (.exit id) a' w'
  | .ret st' => ∀ a' w' E', a'.defers = a.defers → CR cx ef E0 w0 H0 G E' st' a' w' → Q .ret a' w'
  | .pan v st' => ∀ v' a' w' E', a'.defers = a.defers → CR cx ef E0 w0 H0 G E' st' a' w' → VR E' st'.heap.length v v' → Q (.panic [{ v := v', recovered := false }]) a' w'
  | .cut todo st' => ∀ a' w' E', a'.defers = a.defers → CR cx ef E0 w0 H0 G E' st' a' w' → postK cx.P todo Q .normal a' w'
def RgDraw (cx : Cx T) : Prop := ∀ (id : Nat) (ops : Array Oper) (st : St T) (out : RgOut T), (opsDrawA cx ops st).pick = some out → out.state.ok = true →
  ∀ (E : Emb) (a : Act) (w : World), StR cx E st a w → ∀ Q, RgK cx E st a w (Q .normal) Q out → (Code.region id ops true).wp cx.P Q a w
def RgDrawLvl (cx : Cx T) : Prop := ∀ (ops : Array Oper) (st : St T) (out : RgOut T), (opsDrawA cx ops st).pick = some out → out.state.ok = true → st.ok = true ∧ out.state.gen = st.gen ∧ ∃ news, out.state.env = news ++ st.env
def Lvl (st st' : St T) : Prop := st.ok = true ∧ st.gen ≤ st'.gen ∧ (st'.gen = st.gen → ∃ news, st'.env = news ++ st.env)
theorem Lvl.trans {st st1 st2 : St T} (h : Lvl st st1) (k : Lvl st1 st2) : Lvl st st2 := by
  refine ⟨h.1, Nat.le_trans h.2.1 k.2.1, fun e => ?_⟩
  obtain ⟨n1, h1⟩ := h.2.2 (by have := h.2.1; have := k.2.1; omega)
  obtain ⟨n2, h2⟩ := k.2.2 (by have := h.2.1; have := k.2.1; omega)
  exact ⟨n2 ++ n1, by rw [h2, h1]; simp⟩
theorem Lvl.of {st st' s s' : St T} (h : Lvl st st') (h1 : s.ok = st.ok) (h2 : s.gen = st.gen) (h3 : s.env = st.env) (h4 : s'.gen = st'.gen) (h5 : s'.env = st'.env) : Lvl s s' :=
  ⟨h1.trans h.1, by rw [h2, h4]; exact h.2.1, fun e => by rw [h5, h3]; exact h.2.2 (by rw [← h4, ← h2]; exact e)⟩
theorem redirty_state (D : List Nat) (s : Stop T) : (s.redirty D).state = redirty D s.state := by cases s <;> rfl
def rgTree (cx : Cx T) (ops : Array Oper) (draw : Bool) (st : St T) : Tr (Stop T) :=
  match draw with
  | false => (opsL cx ops.toList ops.toList st).bind ofRg
  | true => (opsDrawA cx ops st).bind ofRg
theorem rgTree_lvl (hDL : RgDrawLvl cx) {ops : Array Oper} {draw : Bool} {st : St T} {s : Stop T} (h : (rgTree cx ops draw st).pick = some s) (hok : s.state.ok = true) : st.ok = true ∧ s.state.gen = st.gen ∧ (∃ news, s.state.env = news ++ st.env) ∧ ∃ out : RgOut T, out.state = s.state ∧ ((∃ x, out = .done x ∧ s = .done x) ∨ ∃ v x, out = .pan v x ∧ s = .pan v x) ∧
    ((draw = false ∧ (opsL cx ops.toList ops.toList st).pick = some out) ∨ (draw = true ∧ (opsDrawA cx ops st).pick = some out)) := by
  have fromRg : ∀ (out : RgOut T), (ofRg out).pick = some s → out.state = s.state ∧ ((∃ x, out = .done x ∧ s = .done x) ∨ ∃ v x, out = .pan v x ∧ s = .pan v x) := by
    intro out ho
    cases out with
    | done x => have := pick_leaf ho; subst this; exact ⟨rfl, .inl ⟨x, rfl, rfl⟩⟩
    | pan v x => have := pick_leaf ho; subst this; exact ⟨rfl, .inr ⟨v, x, rfl, rfl⟩⟩
  unfold rgTree at h
  split at h
  · obtain ⟨out, h1, h2⟩ := pick_bind _ _ _ h
    obtain ⟨e1, e2⟩ := fromRg out h2
    exact ⟨opsL_ok _ h1 (by rw [e1]; exact hok), by rw [← e1]; exact opsL_gen _ h1, by rw [← e1]; exact opsL_env _ h1, out, e1, e2, .inl ⟨rfl, h1⟩⟩
  · obtain ⟨out, h1, h2⟩ := pick_bind _ _ _ h
    obtain ⟨e1, e2⟩ := fromRg out h2
    obtain ⟨l1, l2, l3⟩ := hDL ops st out h1 (by rw [e1]; exact hok)
    exact ⟨l1, by rw [← e1]; exact l2, by rw [← e1]; exact l3, out, e1, e2, .inr ⟨rfl, h1⟩⟩
theorem runC_region (ef : List Eff) (id : Nat) (ops : Array Oper) (draw : Bool) (st : St T) :
    runC cx ef (.region id ops draw) st = (joinR cx id { st with dirty := [] } (rgTree cx ops draw { st with dirty := [] })).bind fun s => .leaf (s.redirty st.dirty) := by
  cases draw <;> rfl
theorem bind_redirty {t : Tr (Stop T)} {D : List Nat} {s : Stop T} (h : (t.bind fun s => .leaf (s.redirty D)).pick = some s) : ∃ s1, t.pick = some s1 ∧ s = s1.redirty D := by
  obtain ⟨s1, h1, h2⟩ := pick_bind _ _ _ h
  exact ⟨s1, h1, (pick_leaf h2).symm⟩
theorem joinAt_pick {ef : List Eff} {x : Operand} {st : St T} {t : Tr (Stop T)} {s : Stop T} (h : (joinAt cx ef x st t).pick = some s) : ∃ s0, t.pick = some s0 ∧ (s0 = s ∨ ∃ x y, s0 = .done x ∧ s = .done y ∧ y.ok = x.ok ∧
    ((x.gen = st.gen ∧ y.gen = st.gen ∧ (∃ news, y.env = news ++ st.env) ∧ (∀ {E E1 : Emb} {a0 a : Act} {w w1 : World}, StR cx E st a0 w → Joined cx E st w E1 x a w1 → Joined cx E st w E1 y a w1)) ∨
     (x.gen < y.gen ∧ ∀ {E0 : Emb} {w0 : World} {H0 : List (Ob T)} {G : List Nat} {E : Emb} {a : Act} {w : World}, CR cx ef E0 w0 H0 G E x a w → ∃ E', CR cx ef E0 w0 H0 G E' y a w))) := by
  unfold joinAt at h
  split at h
  · exact ⟨s, h, .inl rfl⟩
  · split at h
    · exact ⟨s, h, .inl rfl⟩
    · split at h
      · obtain ⟨s0, q1, q2⟩ := joinSS_pick _ h
        refine ⟨s0, q1, q2.imp (fun h => h) ?_⟩
        rintro ⟨x, y, r1, r2, r3, r4, r5⟩
        exact ⟨x, y, r1, r2, r3, .inr ⟨r4, r5⟩⟩
      · obtain ⟨s0, q1, q2⟩ := joinT_pick _ h
        refine ⟨s0, q1, q2.imp (fun h => h) ?_⟩
        rintro ⟨x, y, r1, r2, r3, r4, r5, r6, r7⟩
        exact ⟨x, y, r1, r2, r3, .inl ⟨r4, r5, r6, r7⟩⟩
theorem runC_lvl (hDL : RgDrawLvl cx) (ef : List Eff) : ∀ (c : Code) (st : St T) (s : Stop T), (runC cx ef c st).pick = some s → s.state.ok = true → Lvl st s.state := by
  intro c
  induction c with
  | skip => intro st s h hok; have := pick_leaf h; subst this; exact ⟨hok, Nat.le_refl _, fun _ => ⟨[], rfl⟩⟩
  | region id ops draw =>
    intro st s h hok
    rw [runC_region] at h
    obtain ⟨s1, h1, rfl⟩ := bind_redirty h
    rw [redirty_state] at hok ⊢
    obtain ⟨s0, q1, q2⟩ := joinR_pick (cx := cx) _ h1
    rcases q2 with rfl | ⟨x, y, rfl, rfl, r1, r2, r3, r4, r5⟩
    · obtain ⟨l1, l2, l3, _⟩ := rgTree_lvl hDL q1 hok
      exact ⟨l1, Nat.le_of_eq l2.symm, fun _ => l3⟩
    · obtain ⟨l1, l2, l3, _⟩ := rgTree_lvl hDL q1 (by show x.ok = true; rw [← r1]; exact hok)
      exact ⟨l1, Nat.le_of_eq r3.symm, fun _ => r4⟩
  | seq a b iha ihb =>
    intro st s h hok
    simp only [runC] at h
    obtain ⟨s1, h1, h2⟩ := pick_bind _ _ _ h
    cases s1 with
    | done st1 =>
      simp only at h2
      split at h2
      · have := pick_leaf h2; subst this; exact iha st (.done st1) h1 hok
      · have k := ihb st1 s h2 hok
        exact (iha st _ h1 k.1).trans k
    | cut l st1 => have := pick_leaf h2; subst this; exact iha st (.cut l st1) h1 hok
    | exit i st1 => have := pick_leaf h2; subst this; exact iha st _ h1 hok
    | ret st1 => have := pick_leaf h2; subst this; exact iha st _ h1 hok
    | pan v st1 => have := pick_leaf h2; subst this; exact iha st _ h1 hok
  | cond x a b iha ihb =>
    intro st s h hok
    simp only [runC] at h
    obtain ⟨s1, h1, rfl⟩ := bind_redirty h
    rw [redirty_state] at hok ⊢
    obtain ⟨s0, q1, q2⟩ := joinAt_pick h1
    obtain ⟨⟨p, stp⟩, k1, k2⟩ := pick_bind _ _ _ q1
    obtain ⟨e1, e2, e3, e4, news, e5⟩ := splitOn_ok k1
    have sp : ∀ st' : St T, Lvl stp st' → Lvl st st' := fun st' hl => ⟨by rw [show st.ok = stp.ok from e1.symm]; exact hl.1, by rw [show st.gen = stp.gen from e4.symm]; exact hl.2.1, fun e => by
      obtain ⟨n2, h2⟩ := hl.2.2 (by rw [e]; exact e4.symm)
      exact ⟨n2 ++ news, by rw [h2, e5]; simp⟩⟩
    have main : s0.state.ok = true → Lvl st s0.state := by
      intro hk
      cases p with
      | true => exact sp _ (iha stp s0 k2 hk)
      | false => exact sp _ (ihb stp s0 k2 hk)
    rcases q2 with rfl | ⟨x, y, rfl, rfl, r1, ⟨r2, r3, r4, _⟩ | ⟨r2, _⟩⟩
    · exact (main hok).of rfl rfl rfl rfl rfl
    · have := main (by show x.ok = true; rw [← r1]; exact hok)
      exact ⟨this.1, Nat.le_of_eq r3.symm, fun _ => r4⟩
    · have := main (by show x.ok = true; rw [← r1]; exact hok)
      have hg : st.gen ≤ x.gen := this.2.1
      exact ⟨this.1, by show st.gen ≤ y.gen; omega, fun e => by have : y.gen = st.gen := e; omega⟩
  | block id a iha =>
    intro st s h hok
    simp only [runC] at h
    obtain ⟨s1, h1, h2⟩ := pick_bind _ _ _ h
    cases s1 with
    | exit i st1 =>
      simp only at h2
      split at h2
      · have := pick_leaf h2; subst this; exact iha st (.exit i st1) h1 hok
      · have := pick_leaf h2; subst this; exact iha st _ h1 hok
    | done st1 => have := pick_leaf h2; subst this; exact iha st _ h1 hok
    | cut l st1 => have := pick_leaf h2; subst this; exact iha st (.cut l st1) h1 hok
    | ret st1 => have := pick_leaf h2; subst this; exact iha st _ h1 hok
    | pan v st1 => have := pick_leaf h2; subst this; exact iha st _ h1 hok
  | scope a iha =>
    intro st s h hok
    simp only [runC] at h
    obtain ⟨s1, h1, h2⟩ := pick_bind _ _ _ h
    cases s1 with
    | exit i st1 => have := pick_leaf h2; subst this; exact iha st _ h1 hok
    | done st1 => have := pick_leaf h2; subst this; exact iha st _ h1 hok
    | cut l st1 => have := pick_leaf h2; subst this; exact iha st (.cut l st1) h1 hok
    | ret st1 => have := pick_leaf h2; subst this; exact iha st _ h1 hok
    | pan v st1 => have := pick_leaf h2; subst this; exact iha st _ h1 hok
  | label l => intro st s h hok; have := pick_leaf h; subst this; exact ⟨hok, Nat.le_refl _, fun _ => ⟨[], rfl⟩⟩
  | loop a => intro st s h hok; have := pick_leaf h; subst this; exact ⟨hok, Nat.le_refl _, fun _ => ⟨[], rfl⟩⟩
  | exit id => intro st s h hok; have := pick_leaf h; subst this; exact ⟨hok, Nat.le_refl _, fun _ => ⟨[], rfl⟩⟩
  | ret => intro st s h hok; have := pick_leaf h; subst this; exact ⟨hok, Nat.le_refl _, fun _ => ⟨[], rfl⟩⟩
  | _ => intro st s h hok; exact (pick_fail h).elim
end
end Go.Proofs.YtlflclfhldghbaaGreatDoor.Ls
end
section
namespace Go.Proofs.YtlflclfhldghbaaGreatDoor.Ls
open Go
section
variable {T : TypeId → VS} {cx : Cx T}
theorem StopK.rebase {ef : List Eff} {E0 : Emb} {w0 : World} {H0 : List (Ob T)} {G : List Nat} {E E1 : Emb} {st st1 : St T} {a a1 : Act} {w w1 : World} {Q : Exit → Act → World → Prop} {s : Stop T}
    (hd : a1.defers = a.defers) (h1 : st.gen ≤ st1.gen) (h2 : s.state.ok = true → Lvl st1 s.state) (hok : s.state.ok = true) (hs : st1.gen = st.gen → Stp cx.glob E st w E1 st1 w1)
    (h : StopK cx ef E0 w0 H0 G E st a w Q s) : StopK cx ef E0 w0 H0 G E1 st1 a1 w1 Q s := by
  have hl := h2 hok
  have tr : ∀ {E' : Emb} {w' : World}, (s.state.gen = st1.gen → Stp cx.glob E1 st1 w1 E' s.state w') → s.state.gen = st.gen → Stp cx.glob E st w E' s.state w' := by
    intro E' w' k e
    have := hl.2.1
    exact (hs (by omega)).trans (k (by omega))
  cases s with
  | done x => exact fun a' w' E' hd' hc hk => h a' w' E' (hd'.trans hd) hc (tr hk)
  | exit i x => exact fun a' w' E' hd' hc hk => h a' w' E' (hd'.trans hd) hc (tr hk)
  | ret x => exact fun a' w' E' hd' hc => h a' w' E' (hd'.trans hd) hc
  | pan v x => exact fun v' a' w' E' hd' hc => h v' a' w' E' (hd'.trans hd) hc
  | cut l x => exact fun a' w' E' hd' hc => h a' w' E' (hd'.trans hd) hc
theorem CR.inn {ef : List Eff} {E0 : Emb} {w0 : World} {H0 : List (Ob T)} {G : List Nat} {E : Emb} {st : St T} {a : Act} {w : World} (h : CR cx ef E0 w0 H0 G E st a w) :
    CR cx ef E0 w0 H0 (G ++ st.dirty) E { st with dirty := [] } a w :=
  h.of rfl rfl (fun p hp => .inl (by simp; exact hp))
theorem CR.out' {ef : List Eff} {E0 : Emb} {w0 : World} {H0 : List (Ob T)} {G D : List Nat} {E : Emb} {st : St T} {a : Act} {w : World} (h : CR cx ef E0 w0 H0 (G ++ D) E st a w) :
    CR cx ef E0 w0 H0 G E (redirty D st) a w := by
  refine h.of rfl rfl (fun p hp => ?_)
  simp at hp
  show p ∈ G ∨ p ∈ unionN st.dirty D
  rw [unionN_mem]
  rcases hp with (h | h) | h
  · exact .inl h
  · exact .inr (.inr h)
  · exact .inr (.inl h)
theorem StopK.inn {ef : List Eff} {E0 : Emb} {w0 : World} {H0 : List (Ob T)} {G : List Nat} {E : Emb} {st : St T} {a : Act} {w : World} {Q : Exit → Act → World → Prop} {s : Stop T}
    (h : StopK cx ef E0 w0 H0 G E st a w Q (s.redirty st.dirty)) : StopK cx ef E0 w0 H0 (G ++ st.dirty) E { st with dirty := [] } a w Q s := by
  have sp : ∀ {E' : Emb} {w' : World} {x : St T}, (x.gen = st.gen → Stp cx.glob E { st with dirty := [] } w E' x w') → (redirty st.dirty x).gen = st.gen → Stp cx.glob E st w E' (redirty st.dirty x) w' := by
    intro E' w' x k e
    refine (k e).of rfl rfl (fun id hid => ?_) (fun id hid => ?_) e
    · show id ∈ unionN x.dirty st.dirty
      rw [unionN_mem]; exact .inl hid
    · show id ∈ unionN x.dirty st.dirty
      rw [unionN_mem]; exact .inr hid
  cases s with
  | done x => exact fun a' w' E' hd hc hk => h a' w' E' hd hc.out' (sp hk)
  | exit i x => exact fun a' w' E' hd hc hk => h a' w' E' hd hc.out' (sp hk)
  | ret x => exact fun a' w' E' hd hc => h a' w' E' hd hc.out'
  | pan v x => exact fun v' a' w' E' hd hc => h v' a' w' E' hd hc.out'
  | cut l x => exact fun a' w' E' hd hc => h a' w' E' hd hc.out'
theorem rg_sound (hC : CallOK cx) (hD : RgDraw cx) (ef : List Eff) {id : Nat} {ops : Array Oper} {draw : Bool} {E0 : Emb} {w0 : World} {H0 : List (Ob T)} {G : List Nat} {E : Emb} {st : St T} {a : Act} {w : World} (hcr : CR cx ef E0 w0 H0 G E st a w)
    {Q : Exit → Act → World → Prop} {out : RgOut T} (hok : out.state.ok = true)
    (ho : (draw = false ∧ (opsL cx ops.toList ops.toList st).pick = some out) ∨ (draw = true ∧ (opsDrawA cx ops st).pick = some out))
    (hS : RgK cx E st a w (Q .normal) Q out) : (Code.region id ops draw).wp cx.P Q a w := by
  rcases ho with ⟨rfl, h⟩ | ⟨rfl, h1⟩
  · have := (opsL_sound hC (ops := ops) ops.toList 0 (by simp) hcr.str h hok).2.2 Q hS
    rw [Array.length_toList] at this
    exact wp_region (by rw [List.range_eq_range']; exact this)
  · exact hD id ops st out h1 hok E a w hcr.str Q hS
theorem StopK.same {ef : List Eff} {E0 : Emb} {w0 : World} {H0 : List (Ob T)} {G : List Nat} {E : Emb} {st st1 : St T} {a : Act} {w : World} {Q : Exit → Act → World → Prop} {s : Stop T}
    (e1 : st1.heap = st.heap) (e2 : st1.dirty = st.dirty) (e3 : st1.gen = st.gen) (h : StopK cx ef E0 w0 H0 G E st a w Q s) : StopK cx ef E0 w0 H0 G E st1 a w Q s := by
  have sp : ∀ {E' : Emb} {w' : World} {x : St T}, (x.gen = st1.gen → Stp cx.glob E st1 w E' x w') → x.gen = st.gen → Stp cx.glob E st w E' x w' := by
    intro E' w' x k e
    have k := k (e.trans e3.symm)
    exact k.of e1.symm rfl (fun id h => h) (fun id hid => k.mono id (by rw [e2]; exact hid)) e
  cases s with
  | done x => exact fun a' w' E' hd hc hk => h a' w' E' hd hc (sp hk)
  | exit i x => exact fun a' w' E' hd hc hk => h a' w' E' hd hc (sp hk)
  | ret x => exact h
  | pan v x => exact h
  | cut l x => exact h
theorem runC_sound (hC : CallOK cx) (hD : RgDraw cx) (hDL : RgDrawLvl cx) (ef : List Eff) {E0 : Emb} {w0 : World} {H0 : List (Ob T)} : ∀ (c : Code) {G : List Nat} {E : Emb} {st : St T} {a : Act} {w : World}, CR cx ef E0 w0 H0 G E st a w → ∀ {s : Stop T}, (runC cx ef c st).pick = some s → s.state.ok = true →
    ∀ {Q : Exit → Act → World → Prop}, StopK cx ef E0 w0 H0 G E st a w Q s → c.wp cx.P Q a w := by
  intro c
  induction c with
  | skip => intro G E st a w hcr s h hok Q hS; have := pick_leaf h; subst this; exact wp_skip (hS a w E rfl hcr (fun _ => Stp.refl hcr.str.sim))
  | region id ops draw =>
    intro G E st a w hcr s h hok Q hS
    rw [runC_region] at h
    obtain ⟨s1, h1, rfl⟩ := bind_redirty h
    rw [redirty_state] at hok
    have hin := hcr.inn
    have hS1 := hS.inn
    obtain ⟨s0, q1, q2⟩ := joinR_pick (cx := cx) _ h1
    have hok0 : s0.state.ok = true := by
      rcases q2 with rfl | ⟨x, y, rfl, rfl, r1, r2, r3, r4, r5⟩
      · exact hok
      · show x.ok = true; rw [← r1]; exact hok
    obtain ⟨l1, l2, l3, out, e1, e2, e3⟩ := rgTree_lvl hDL q1 hok0
    have hS0 : StopK cx ef E0 w0 H0 (G ++ st.dirty) E { st with dirty := [] } a w Q s0 := by
      rcases q2 with rfl | ⟨x, y, rfl, rfl, r1, r2, r3, r4, r5⟩
      · exact hS1
      · intro a' w' E' hd hc hk
        have J := r5 hin.str ⟨hc.str, hk r2, l3⟩
        exact hS1 a' w' E' hd (hin.step J.stp J.str) (fun _ => J.stp)
    refine rg_sound hC hD ef hin (out := out) (by rw [e1]; exact hok0) e3 ?_
    rcases e2 with ⟨x, rfl, rfl⟩ | ⟨v, x, rfl, rfl⟩
    · intro a' w' E' hd hr hp
      exact hS0 a' w' E' hd (hin.step hp hr) (fun _ => hp)
    · intro v' a' w' E' hd hr hv hp
      exact hS0 v' a' w' E' hd (hin.step hp hr) hv
  | seq x y iha ihb =>
    intro G E st a w hcr s h hok Q hS
    simp only [runC] at h
    obtain ⟨s1, h1, h2⟩ := pick_bind _ _ _ h
    refine wp_seq (iha hcr h1 ?_ ?_)
    · cases s1 with
      | done st1 =>
        simp only at h2
        split at h2
        · have := pick_leaf h2; subst this; exact hok
        · exact (runC_lvl hDL ef y st1 s h2 hok).1
      | cut l st1 => have := pick_leaf h2; subst this; exact hok
      | exit i st1 => have := pick_leaf h2; subst this; exact hok
      | ret st1 => have := pick_leaf h2; subst this; exact hok
      | pan v st1 => have := pick_leaf h2; subst this; exact hok
    · cases s1 with
      | done st1 =>
        simp only at h2
        split at h2
        · have := pick_leaf h2; subst this
          intro a' w' E' hd hc hk
          exact hS a' w' E' hd hc
        · intro a' w' E' hd hc hk
          have l2 := runC_lvl hDL ef y st1 s h2
          have l1 := runC_lvl hDL ef x st (.done st1) h1 (l2 hok).1
          exact ihb hc h2 hok (hS.rebase hd l1.2.1 l2 hok hk)
      | cut l st1 =>
        have := pick_leaf h2; subst this
        intro a' w' E' hd hc
        have := hS a' w' E' hd hc
        rw [postK_append] at this
        exact this
      | exit i st1 => have := pick_leaf h2; subst this; exact hS
      | ret st1 => have := pick_leaf h2; subst this; exact hS
      | pan v st1 => have := pick_leaf h2; subst this; exact hS
  | cond x c1 c2 iha ihb =>
    intro G E st a w hcr s h hok Q hS
    simp only [runC] at h
    obtain ⟨s1, h1, rfl⟩ := bind_redirty h
    rw [redirty_state] at hok
    have hin := hcr.inn
    have hS1 := hS.inn
    obtain ⟨s0, q1, q2⟩ := joinAt_pick h1
    obtain ⟨⟨p, stp⟩, k1, k2⟩ := pick_bind _ _ _ q1
    obtain ⟨ev, sr, e2, e3, e4, e1, news, e5⟩ := splitOn_sound hin.str k1
    have hok0 : s0.state.ok = true := by
      rcases q2 with rfl | ⟨x, y, rfl, rfl, r1, _⟩
      · exact hok
      · show x.ok = true; rw [← r1]; exact hok
    have hl : Lvl stp s0.state := by
      cases p with
      | true => exact runC_lvl hDL ef c1 stp s0 k2 hok0
      | false => exact runC_lvl hDL ef c2 stp s0 k2 hok0
    have hcs : CR cx ef E0 w0 H0 (G ++ st.dirty) E stp a w := by
      have hs : Stp cx.glob E { st with dirty := [] } w E stp w := (Stp.refl hin.str.sim).of rfl e2 (fun id h => by rw [e3]; exact h) (fun id h => by cases h) e4
      exact hin.step hs sr
    have hS0 : StopK cx ef E0 w0 H0 (G ++ st.dirty) E { st with dirty := [] } a w Q s0 := by
      rcases q2 with rfl | ⟨x, y, rfl, rfl, r1, ⟨r2, r3, r4, r5⟩ | ⟨r2, r3⟩⟩
      · exact hS1
      · intro a' w' E' hd hc hk
        obtain ⟨n2, h2⟩ := hl.2.2 (by rw [e4]; exact r2)
        have J := r5 hin.str ⟨hc.str, hk r2, ⟨n2 ++ news, by rw [show x.env = n2 ++ stp.env from h2, e5]; simp⟩⟩
        exact hS1 a' w' E' hd (hin.step J.stp J.str) (fun _ => J.stp)
      · intro a' w' E' hd hc hk
        obtain ⟨E2, hc2⟩ := r3 hc
        have hge : st.gen ≤ x.gen := by have := hl.2.1; rw [e4] at this; exact this
        exact hS1 a' w' E2 hd hc2 (fun e => by have : y.gen = st.gen := e; omega)
    have hS2 := hS0.same e2 e3 e4
    refine wp_cond ev ?_
    cases p with
    | true => exact iha hcs k2 hok0 hS2
    | false => exact ihb hcs k2 hok0 hS2
  | block id x iha =>
    intro G E st a w hcr s h hok Q hS
    simp only [runC] at h
    obtain ⟨s1, h1, h2⟩ := pick_bind _ _ _ h
    refine wp_block (iha hcr h1 ?_ ?_)
    · cases s1 with
      | exit i st1 =>
        simp only at h2
        split at h2 <;> (have := pick_leaf h2; subst this; exact hok)
      | done st1 => have := pick_leaf h2; subst this; exact hok
      | cut l st1 => have := pick_leaf h2; subst this; exact hok
      | ret st1 => have := pick_leaf h2; subst this; exact hok
      | pan v st1 => have := pick_leaf h2; subst this; exact hok
    · cases s1 with
      | exit i st1 =>
        intro a' w' E' hd hc hk
        show Exit.inBlock id Q (.exit i) a' w'
        simp only [Exit.inBlock]
        simp only at h2
        split at h2
        · rename_i he
          have := pick_leaf h2; subst this
          rw [if_pos (Nat.eq_of_beq_eq_true he)]
          exact hS a' w' E' hd hc hk
        · rename_i he
          have := pick_leaf h2; subst this
          rw [if_neg (fun e => by subst e; rw [Nat.beq_refl] at he; cases he)]
          exact hS a' w' E' hd hc hk
      | done st1 => have := pick_leaf h2; subst this; exact hS
      | cut l st1 =>
        have := pick_leaf h2; subst this
        intro a' w' E' hd hc
        have := hS a' w' E' hd hc
        rw [postK_append] at this
        exact this
      | ret st1 => have := pick_leaf h2; subst this; exact hS
      | pan v st1 => have := pick_leaf h2; subst this; exact hS
  | scope x iha =>
    intro G E st a w hcr s h hok Q hS
    simp only [runC] at h
    obtain ⟨s1, h1, h2⟩ := pick_bind _ _ _ h
    refine wp_scope_straight (iha hcr h1 ?_ ?_)
    · cases s1 with
      | exit i st1 => have := pick_leaf h2; subst this; exact hok
      | done st1 => have := pick_leaf h2; subst this; exact hok
      | cut l st1 => have := pick_leaf h2; subst this; exact hok
      | ret st1 => have := pick_leaf h2; subst this; exact hok
      | pan v st1 => have := pick_leaf h2; subst this; exact hok
    · cases s1 with
      | exit i st1 => have := pick_leaf h2; subst this; exact hS
      | done st1 => have := pick_leaf h2; subst this; exact hS
      | cut l st1 =>
        have := pick_leaf h2; subst this
        intro a' w' E' hd hc
        have := hS a' w' E' hd hc
        rw [postK_append] at this
        exact this
      | ret st1 => have := pick_leaf h2; subst this; exact hS
      | pan v st1 => have := pick_leaf h2; subst this; exact hS
  | label l => intro G E st a w hcr s h hok Q hS; have := pick_leaf h; subst this; exact wp_label (hS a w E rfl hcr (fun _ => Stp.refl hcr.str.sim))
  | loop x => intro G E st a w hcr s h hok Q hS; have := pick_leaf h; subst this; exact wp_loopW (hS a w E rfl hcr)
  | exit id => intro G E st a w hcr s h hok Q hS; have := pick_leaf h; subst this; exact wp_exit (hS a w E rfl hcr (fun _ => Stp.refl hcr.str.sim))
  | ret => intro G E st a w hcr s h hok Q hS; have := pick_leaf h; subst this; exact wp_ret (hS a w E rfl hcr)
  | _ => intro G E st a w hcr s h hok Q hS; exact (pick_fail h).elim
end
end Go.Proofs.YtlflclfhldghbaaGreatDoor.Ls
end
section
namespace Go.Proofs.YtlflclfhldghbaaGreatDoor.Ls
open Go
section
variable {T : TypeId → VS} {cx : Cx T}
theorem postK_pan (P : Program) (Q : Exit → Act → World → Prop) (ch : _) (a : Act) (w : World) : ∀ (l : List It), Q (.panic ch) a w → postK P l Q (.panic ch) a w
  | [], h => h
  | .code c :: r, h => postK_pan P Q ch a w r h
  | .inBlock id :: r, h => postK_pan P Q ch a w r h
  | .inScope :: r, h => postK_pan P Q ch a w r h
  | .loop c :: r, h => postK_pan P Q ch a w r h
theorem postK_ret (P : Program) (Q : Exit → Act → World → Prop) (a : Act) (w : World) : ∀ (l : List It), Q .ret a w → postK P l Q .ret a w
  | [], h => h
  | .code c :: r, h => postK_ret P Q a w r h
  | .inBlock id :: r, h => postK_ret P Q a w r h
  | .inScope :: r, h => postK_ret P Q a w r h
  | .loop c :: r, h => postK_ret P Q a w r h
theorem resume_lvl (hDL : RgDrawLvl cx) (ef : List Eff) : ∀ (l : List It) (s s' : Stop T), (resume cx ef l s).pick = some s' → s'.state.ok = true → Lvl s.state s'.state
  | [], s, s', h, hok => by have := pick_leaf h; subst this; exact ⟨hok, Nat.le_refl _, fun _ => ⟨[], rfl⟩⟩
  | i :: r, s, s', h, hok => by
    have same : ∀ x : Stop T, (Tr.leaf x).pick = some s' → x.state = s.state → Lvl s.state s'.state := by
      intro x hx e
      have := pick_leaf hx; subst this
      rw [e] at hok ⊢; exact ⟨hok, Nat.le_refl _, fun _ => ⟨[], rfl⟩⟩
    cases s with
    | done st =>
      cases i with
      | code c =>
        simp only [resume] at h
        obtain ⟨s1, h1, h2⟩ := pick_bind _ _ _ h
        have k := resume_lvl hDL ef r s1 s' h2 hok
        exact (runC_lvl hDL ef c st s1 h1 k.1).trans k
      | inBlock id => exact resume_lvl hDL ef r (.done st) s' h hok
      | inScope => exact resume_lvl hDL ef r (.done st) s' h hok
      | loop c => exact same _ h rfl
    | exit id st =>
      cases i with
      | code c => exact resume_lvl hDL ef r (.exit id st) s' h hok
      | inBlock id' =>
        simp only [resume] at h
        split at h
        · exact resume_lvl hDL ef r (.done st) s' h hok
        · exact resume_lvl hDL ef r (.exit id st) s' h hok
      | loop c => exact resume_lvl hDL ef r (.exit id st) s' h hok
      | inScope => exact resume_lvl hDL ef r (.exit id st) s' h hok
    | ret st => exact same _ h rfl
    | pan v st => exact same _ h rfl
    | cut l st => exact same _ h rfl
theorem resume_sound (hC : CallOK cx) (hD : RgDraw cx) (hDL : RgDrawLvl cx) (ef : List Eff) {E0 : Emb} {w0 : World} {H0 : List (Ob T)} {Q : Exit → Act → World → Prop} {G : List Nat} : ∀ (l : List It) (s s' : Stop T), (resume cx ef l s).pick = some s' → s'.state.ok = true →
    ∀ {E : Emb} {st : St T} {a : Act} {w : World}, st.gen ≤ s.state.gen → StopK cx ef E0 w0 H0 G E st a w Q s' → StopK cx ef E0 w0 H0 G E st a w (postK cx.P l Q) s
  | [], s, s', h, hok, E, st, a, w, hg, hS => by have := pick_leaf h; subst this; exact hS
  | i :: r, s, s', h, hok, E, st, a, w, hg, hS => by
    have ih : ∀ s1, (resume cx ef r s1).pick = some s' → ∀ {E : Emb} {st : St T} {a : Act} {w : World}, st.gen ≤ s1.state.gen → StopK cx ef E0 w0 H0 G E st a w Q s' → StopK cx ef E0 w0 H0 G E st a w (postK cx.P r Q) s1 :=
      fun s1 hs1 _ _ _ _ hg hS => resume_sound hC hD hDL ef r s1 s' hs1 hok hg hS
    cases s with
    | done st1 =>
      cases i with
      | code c =>
        simp only [resume] at h
        obtain ⟨s1, h1, h2⟩ := pick_bind _ _ _ h
        have k := resume_lvl hDL ef r s1 s' h2 hok
        have l1 := runC_lvl hDL ef c st1 s1 h1 k.1
        intro a' w' E' hd hc hk
        exact runC_sound hC hD hDL ef c hc h1 k.1 (ih s1 h2 l1.2.1 (hS.rebase hd hg (fun _ => l1.trans k) hok hk))
      | inBlock id => exact ih (.done st1) h hg hS
      | inScope => exact ih (.done st1) h hg hS
      | loop c => have := pick_leaf h; subst this; exact fun a' w' E' hd hc hk => hS a' w' E' hd hc
    | exit id st1 =>
      cases i with
      | code c => exact ih (.exit id st1) h hg hS
      | inBlock id' =>
        simp only [resume] at h
        intro a' w' E' hd hc hk
        show Exit.inBlock id' (postK cx.P r Q) (.exit id) a' w'
        simp only [Exit.inBlock]
        split at h
        · rename_i he
          rw [if_pos (Nat.eq_of_beq_eq_true he)]
          exact ih (.done st1) h hg hS a' w' E' hd hc hk
        · rename_i he
          rw [if_neg (fun e => by subst e; rw [Nat.beq_refl] at he; cases he)]
          exact ih (.exit id st1) h hg hS a' w' E' hd hc hk
      | loop c => exact ih (.exit id st1) h hg hS
      | inScope => exact ih (.exit id st1) h hg hS
    | ret st1 => have := pick_leaf h; subst this; exact fun a' w' E' hd hc => postK_ret _ _ _ _ _ (hS a' w' E' hd hc)
    | pan v st1 => have := pick_leaf h; subst this; exact fun v' a' w' E' hd hc hv => postK_pan _ _ _ _ _ _ (hS v' a' w' E' hd hc hv)
    | cut l st1 =>
      have := pick_leaf h; subst this
      intro a' w' E' hd hc
      have := hS a' w' E' hd hc
      rw [postK_append] at this
      exact this
theorem roundL_sound (hC : CallOK cx) (hD : RgDraw cx) (hDL : RgDrawLvl cx) (ef : List Eff) {E0 : Emb} {w0 : World} {H0 : List (Ob T)} {G : List Nat} {E : Emb} {st : St T} {a : Act} {w : World} (hcr : CR cx ef E0 w0 H0 G E st a w) {todo : List It} {s : Stop T}
    (h : (roundL cx ef todo st).pick = some s) (hok : s.state.ok = true) {Q : Exit → Act → World → Prop} (hS : StopK cx ef E0 w0 H0 G E st a w Q s) : postK cx.P todo Q .normal a w := by
  unfold roundL at h
  split at h
  · rename_i c r
    obtain ⟨s1, h1, h2⟩ := pick_bind _ _ _ h
    have k := resume_lvl hDL ef _ s1 s h2 hok
    have l1 := runC_lvl hDL ef c st s1 h1 k.1
    exact loopW_round (runC_sound hC hD hDL ef c hcr h1 k.1 (resume_sound hC hD hDL ef _ s1 s h2 hok l1.2.1 hS))
  · rename_i c r
    obtain ⟨s1, h1, h2⟩ := pick_bind _ _ _ h
    have k := resume_lvl hDL ef _ s1 s h2 hok
    have l1 := runC_lvl hDL ef c st s1 h1 k.1
    exact runC_sound hC hD hDL ef c hcr h1 k.1 (resume_sound hC hD hDL ef _ s1 s h2 hok l1.2.1 hS)
  · exact (pick_fail h).elim
def oneRes (tmps : Array Value) (r : ResultVar) : Sem Value :=
  match r with
  | .tmp t => pure (tmps.getD t undef)
  | .cell x t => asAddr (tmps.getD x undef) >>= loadVar t
theorem resultV_sound : ∀ (l : List ResultVar) {st st' : St T} {vs : List Value} {E : Emb} {a : Act} {w : World}, resultV cx st l = some (vs, st') → st'.ok = true → Sim cx.glob E st.heap w → EnvR E st.heap.length st.env a →
    (st.ok = true ∧ st'.heap = st.heap ∧ st'.dirty = st.dirty) ∧ ∃ vs', (l.mapM (oneRes a.tmps)).run cx.P w = .ok vs' w ∧ PW E st.heap.length vs vs'
  | [], st, st', vs, E, a, w, h, hok, hS, hV => by
    simp [resultV] at h; obtain ⟨rfl, rfl⟩ := h
    exact ⟨⟨hok, rfl, rfl⟩, [], rfl, .nil⟩
  | .tmp t :: r, st, st', vs, E, a, w, h, hok, hS, hV => by
    simp only [resultV] at h
    split at h
    · rename_i l st1 h1
      simp at h; obtain ⟨rfl, rfl⟩ := h
      obtain ⟨h2, vs', h3, h4⟩ := resultV_sound r h1 hok hS hV
      exact ⟨h2, a.tmps.getD t undef :: vs', by simp only [List.mapM_cons, Sem.run_bind, oneRes, Sem.run_pure, Result.andThen_ok, h3], .cons (hV t) h4⟩
    · cases h
  | .cell x t :: r, st, st', vs, E, a, w, h, hok, hS, hV => by
    simp only [resultV] at h
    split at h
    · rename_i v g hl
      split at h
      · rename_i l st1 h1
        simp at h; obtain ⟨rfl, rfl⟩ := h
        have hg : g ≠ some false ∧ st1.ok = true := by
          cases g with
          | none => exact ⟨by simp, hok⟩
          | some g => simp [St.need] at hok; exact ⟨by simp [hok.2], hok.1⟩
        obtain ⟨h2, vs', h3, h4⟩ := resultV_sound r h1 hg.2 hS hV
        obtain ⟨v', h5, h6⟩ := loadL_sound hS hl hg.1 (hV x)
        have hp : ∃ ad, a.tmps.getD x undef = .pointer (some ad) := by
          have := hV x
          unfold loadL at hl
          split at hl
          · rename_i he
            rw [he] at this
            exact ⟨_, ptr_inv this⟩
          · cases hl
        obtain ⟨ad, hp⟩ := hp
        rw [hp] at h5
        have h5' : (loadVar t ad).run cx.P w = .ok v' w := by
          simpa [Instr.loadAt, Instr.sureAddr] using h5
        refine ⟨⟨h2.1, ?_, ?_⟩, v' :: vs', ?_, .cons h6 h4⟩
        · cases g <;> exact h2.2.1
        · cases g <;> exact h2.2.2
        · simp only [List.mapM_cons, Sem.run_bind, oneRes, hp, asAddr, Sem.run_pure, Result.andThen_ok, h5', h3]
      · cases h
    · cases h
theorem results_run (fn : Func) (tmps : Array Value) {P : Program} {w : World} {vs' : List Value} : (fn.results.toList.mapM (oneRes tmps)).run P w = .ok vs' w →
    (results fn tmps).run P w = .ok (match vs' with | [v] => v | vs => .tuple ⟨vs⟩) w := by
  intro h
  have e : results fn tmps = (List.toArray <$> fn.results.toList.mapM (oneRes tmps)) >>= fun vs => pure (if h : vs.size = 1 then vs[0] else .tuple vs) := by
    rw [← Array.mapM_eq_mapM_toList]
    rfl
  rw [e]
  simp only [Sem.run_bind, Sem.run_map, h, Result.andThen_ok, Sem.run_pure]
  match vs' with
  | [] => rfl
  | [v] => rfl
  | _ :: _ :: _ => simp
end
end Go.Proofs.YtlflclfhldghbaaGreatDoor.Ls
end
section
namespace Go.Proofs.YtlflclfhldghbaaGreatDoor.Ls
open Go
section
variable {T : TypeId → VS} {cx : Cx T}
def moved (ef : List Eff) (p : Nat) : Prop := ∃ e, ef[p]? = some e ∧ e ≠ .keep
structure FP (ef : List Eff) (E0 : Emb) (w0 : World) (H0 : List (Ob T)) (w : World) : Prop where
  frame : ∀ b, b < w0.heap.size → (∀ p, moved ef p → live E0 H0 p → (E0 p).blk ≠ b) → w.heap[b]? = w0.heap[b]?
  os : w.os = w0.os
  tape : w.tape = w0.tape
  out : w.output = w0.output
  size : w0.heap.size ≤ w.heap.size
structure FR (glob : Nat → Option (Ob T)) (ef : List Eff) (E0 : Emb) (w0 : World) (H0 H : List (Ob T)) (E : Emb) (w : World) : Prop where
  fp : FP ef E0 w0 H0 w
  sim : Sim glob E H w
  par : ∀ p, stays ef p → E p = E0 p
  loc : ∀ id, id < H.length → ¬ stays ef id → live0 E H id → w0.heap.size ≤ (E id).blk ∨ ∃ p, moved ef p ∧ live E0 H0 p ∧ (E id).blk = (E0 p).blk
  old : ∀ p, stays ef p → (live E H p → live E0 H0 p) ∧ (live0 E H p → live0 E0 H0 p)
  gl : ∀ id, GB ≤ id → E id = E0 id
def EndOK (glob : Nat → Option (Ob T)) (g : Sig) (E0 : Emb) (w0 : World) (H0 : List (Ob T)) (r : Res T g) : Ending → World → Prop
  | .returned v, w => r.pan = false ∧ ∃ E, FR glob g.eff E0 w0 H0 (encO rid g.out r.out) E w ∧ PW E g.out.length (g.ret.enc rid true r.ret []) [v]
  | .panicked ch, w => r.pan = true ∧ g.pan.isSome = true ∧ g.pv.plainI = true ∧ ∃ v E N, ch = [{ v := v, recovered := false }] ∧ FP g.eff E0 w0 H0 w ∧ PW E N (g.pv.enc rid true r.pv []) [v]
  | _, _ => False
theorem kept_mem : ∀ (ef : List Eff) (i p : Nat), ef[p]? = some .keep → (i + p) ∈ keptIds i ef
  | [], i, p, h => by simp at h
  | e :: r, i, 0, h => by simp at h; subst h; simp [keptIds]
  | e :: r, i, p + 1, h => by
    have := kept_mem r (i + 1) p (by simpa using h)
    rw [show i + 1 + p = i + (p + 1) by omega] at this
    cases e <;> simp [keptIds, this]
theorem disj_mem {j : Nat} : ∀ {l m : List Nat}, disjN l m = true → j ∈ l → j ∉ m
  | i :: r, m, h, hj => by
    unfold disjN at h
    split at h
    · cases h
    · rename_i hm
      simp at hj
      rcases hj with rfl | hj
      · exact memN_false hm
      · exact disj_mem h hj
theorem moved_of {ef : List Eff} {D : List Nat} (h : disjN (keptIds 0 ef) D = true) {p : Nat} (hp : p < ef.length) (hq : ¬ stays ef p ∨ p ∈ ([] : List Nat) ∨ p ∈ D) : moved ef p := by
  have he : ef[p]? = some ef[p] := by simp [hp]
  refine ⟨ef[p], he, fun hk => ?_⟩
  rw [hk] at he
  rcases hq with hq | hq | hq
  · exact hq ⟨_, he, by simp⟩
  · cases hq
  · exact disj_mem h (by have := kept_mem ef 0 p he; simpa using this) hq
theorem CR.fp {ef : List Eff} {E0 : Emb} {w0 : World} {H0 : List (Ob T)} {E : Emb} {st : St T} {a : Act} {w : World} (h : CR cx ef E0 w0 H0 [] E st a w) (hd : disjN (keptIds 0 ef) st.dirty = true) : FP ef E0 w0 H0 w :=
  ⟨fun b hb hT => h.frame b hb (fun p hpl hq hpv => hT p (moved_of hd hpl hq) hpv), h.os, h.tape, h.out, h.size⟩
theorem keys_bound : ∀ A : Asg, ∃ M, ∀ i t, A.find i = some t → i < M
  | [] => ⟨0, fun i t h => by simp [Asg.find] at h⟩
  | (j, u) :: r => by
    obtain ⟨M, hM⟩ := keys_bound r
    refine ⟨M + j + 1, fun i t h => ?_⟩
    rw [find_cons] at h
    split at h
    · omega
    · have := hM i t h; omega
theorem res_pw {E : Emb} {N : Nat} {vs vs' : List Value} : PW E N vs vs' → PW E N (match vs with | [v] => [v] | vs => [.tuple ⟨vs⟩]) [match vs' with | [v] => v | vs => .tuple ⟨vs⟩] := by
  intro h7
  match vs, vs', h7 with
  | [], [], h7 => exact .cons (VR.tup_mk .nil) .nil
  | [], _ :: _, h7 => exact absurd h7.1 (by simp)
  | [v], [u], h7 => exact h7
  | [v], [], h7 => exact absurd h7.1 (by simp)
  | [v], _ :: _ :: _, h7 => exact absurd h7.1 (by simp)
  | v1 :: v2 :: l, [], h7 => exact absurd h7.1 (by simp)
  | v1 :: v2 :: l, [_], h7 => exact absurd h7.1 (by simp)
  | v1 :: v2 :: l, _ :: _ :: _, h7 => exact .cons (VR.tup_mk h7) .nil
theorem widen_pw {glob : Nat → Option (Ob T)} {E : Emb} {H : List (Ob T)} {w : World} (hS : Sim glob E H w) {s : VS} {l l' : List Value} (h : PW E H.length l l') : PW E H.length (widen H s l) l' := by
  unfold widen
  split
  · split
    · rename_i b
      split
      · rename_i wr e xs hlk
        have hb : b < H.length := (List.getElem?_eq_some_iff.1 hlk).1
        obtain ⟨_, _, q3, q4, _⟩ := hS.ob b _ (by rw [lookO_lt (Nat.lt_of_lt_of_le hb hS.le)]; exact hlk)
        obtain ⟨u, r, rfl, hv, hr⟩ := h.inv_cons
        have := hr.inv_nil; subst this
        refine .cons ?_ .nil
        obtain ⟨hid, hh⟩ := wsl_inv hv
        rcases hh with ⟨c', hc1, hc2, rfl⟩ | ⟨hz, x', rfl⟩
        · rw [q3] at hc1 ⊢
          have := VR.gsl (E := E) (N := H.length) b 0 xs.length xs.length c' hid (Nat.le_refl _) hc1 (by omega) (by omega)
          simpa [locA] using this
        · rw [show xs.length = 0 by omega]
          exact .gsl0 b 0 x' hid (Nat.zero_le _)
      · exact h
    · exact h
  · exact h
theorem ret_sound {g : Sig} {fn : Func} {E0 : Emb} {w0 : World} {H0 : List (Ob T)} {E : Emb} {st : St T} {a : Act} {w : World} (hr : CR cx g.eff E0 w0 H0 [] E st a w) (hd : a.defers = [])
    (hok : (retDec cx g fn st).ok = true) : bodyPost cx.P fn (EndOK cx.glob g E0 w0 H0 (retDec cx g fn st)) .ret a w := by
  unfold retDec at hok ⊢
  split
  · rename_i vs st1 h1
    rw [h1] at hok
    simp only at hok
    split
    · rename_i x A1 h2
      rw [h2] at hok
      simp only at hok
      split
      · rename_i y A h3
        rw [h3] at hok
        simp only at hok
        split
        · rename_i h4 h5
          rw [h4, h5] at hok
          simp only at hok
          simp at h4
          obtain ⟨hn, hk, hle⟩ := h4
          have hk : keysOk g.out.length A = true := by
            rw [show g.out.length = (outs (overO g.hp g.hpo) g.eff).length + g.news.length from List.length_append]; exact hk
          have hle : g.out.length ≤ GB := by
            rw [show g.out.length = (outs (overO g.hp g.hpo) g.eff).length + g.news.length from List.length_append]; exact hle
          obtain ⟨⟨_, e1, e2⟩, vs', h6, h7⟩ := resultV_sound _ h1 hok hr.str.sim hr.str.env
          rw [e1] at h2 h3
          rw [e2] at h5
          refine ⟨hd, _, results_run fn _ h6, rfl, ?_⟩
          have hpw := widen_pw (s := g.ret) hr.str.sim (by simpa using res_pw h7)
          obtain ⟨d1, d2, c', r', d3, d4, d5⟩ := dec_sound (T := T) (W := w.heap.size) (M := g.out.length) (os := g.out) g.ret true _ _ _ _ _ _ h2 hpw
          have := d4.inv_nil; subst this
          rw [List.append_nil] at d3
          have hA0 : AOK E st.heap.length (asg0 0 g.eff) := by
            intro p t hp
            obtain ⟨rfl, hst⟩ := (asg0_spec g.eff p t).1 hp
            exact ⟨Nat.lt_of_lt_of_le (stays_lt hst) hr.le, hr.pin p hst⟩
          obtain ⟨s1, s2, s3, s4⟩ := sim_EA (os := g.out) hr.str.sim h3 (d2 hA0) hn hk hle
          have hpar : ∀ p, stays g.eff p → A.find p = some (.obj p) := fun p hst => s3 _ _ (d1 _ _ ((asg0_spec g.eff p _).2 ⟨rfl, hst⟩))
          have hEp : ∀ p, stays g.eff p → EA T E w.heap.size g.out A p = E p := fun p hst => EA_obj (hpar p hst) (Nat.lt_of_lt_of_le (stays_lt hst) hr.le)
          refine ⟨EA T E w.heap.size g.out A, ⟨hr.fp h5, s1, fun p hst => (hEp p hst).trans (hr.par p hst), ?_, ?_, fun id hid => (EA_ge hid).trans (hr.gl id hid)⟩, ?_⟩
          · intro id hid hst hlv
            obtain ⟨hg, t, b, e1, e2, e3, e4, _, e5⟩ := s4 id hlv
            have hbl : b < st.heap.length := by obtain ⟨o, ho, _⟩ := e4; exact (List.getElem?_eq_some_iff.1 ho).1
            have hnst : ¬ stays g.eff b := by
              intro hsb
              exact hst ((nodup_tgt hn id b t (.obj b) b e1 (hpar b hsb) e2 rfl) ▸ hsb)
            rw [e5]
            rcases hr.loc b hbl hnst e4 with hl | ⟨p, hpl, hq, hpv, he⟩
            · exact .inl hl
            · exact .inr ⟨p, moved_of h5 hpl hq, hpv, he⟩
          · intro p hst
            have key : ∀ hlv : live0 (EA T E w.heap.size g.out A) (encO rid g.out y) p, live0 E st.heap p ∧ (live (EA T E w.heap.size g.out A) (encO rid g.out y) p → live E st.heap p) := by
              intro hlv
              obtain ⟨hg, t, b, e1, e2, e3, e4, e6, e5⟩ := s4 p hlv
              rw [hpar p hst] at e1
              cases e1
              simp [tgtB] at e2; subst e2
              exact ⟨e4, e6⟩
            exact ⟨fun hlv => (hr.old p hst).1 ((key hlv.to0).2 hlv), fun hlv => (hr.old p hst).2 (key hlv).1⟩
          · have hp := d5 A s3 (keysOk_lt hk)
            rw [← d3] at hp; exact hp
        · rename_i hne
          exfalso
          split at hok
          · rename_i h4 h5; exact hne h4 h5
          · simp [Res.bad] at hok
      · rename_i hne; rw [hne] at hok; simp [Res.bad] at hok
    · rename_i hne
      exfalso
      split at hok
      · rename_i x A1 h2; exact hne x A1 h2
      · simp [Res.bad] at hok
  · rename_i hne; rw [hne] at hok; simp [Res.bad] at hok
theorem pan_sound {g : Sig} {fn : Func} {E0 : Emb} {w0 : World} {H0 : List (Ob T)} {E : Emb} {st : St T} {a : Act} {w : World} (hr : CR cx g.eff E0 w0 H0 [] E st a w) (hd : a.defers = []) {v v' : Value} (hv : VR E st.heap.length v v')
    (hok : (panDec cx g v st).ok = true) : bodyPost cx.P fn (EndOK cx.glob g E0 w0 H0 (panDec cx g v st)) (.panic [{ v := v', recovered := false }]) a w := by
  unfold panDec at hok ⊢
  split
  · rename_i hne; rw [hne] at hok; simp [Res.bad] at hok
  · rename_i s hs
    rw [hs] at hok
    simp only at hok
    split
    · rename_i x A1 h2
      rw [h2] at hok
      simp only at hok
      split
      · rename_i h4 h5
        obtain ⟨M, hM⟩ := keys_bound A1
        obtain ⟨d1, d2, c', r', d3, d4, d5⟩ := dec_sound (T := T) (W := w.heap.size) (M := M) (os := []) g.pv true _ _ _ _ _ _ h2 (.cons hv .nil)
        have := d4.inv_nil; subst this
        rw [List.append_nil] at d3
        refine ⟨hd, rfl, by rw [hs]; rfl, h5, v', EA T E w.heap.size [] A1, M, rfl, hr.fp h4, ?_⟩
        rw [d3]; exact d5 A1 (.refl _) hM
      · rename_i hne
        exfalso
        split at hok
        · rename_i h4 h5; exact hne h4 h5
        · simp [Res.bad] at hok
    · rename_i hne
      exfalso
      split at hok
      · rename_i x A1 h2; exact hne x A1 h2
      · simp [Res.bad] at hok
end
end Go.Proofs.YtlflclfhldghbaaGreatDoor.Ls
end
section
namespace Go.Proofs.YtlflclfhldghbaaGreatDoor.Ls
open Go
section
variable {T : TypeId → VS} {cx : Cx T}
theorem finishT_pick {g : Sig} {fn : Func} {K : List It → St T → Res T g} : ∀ (t : Tr (Stop T)), (finishT cx g fn K t).ok = true → ∃ s, t.pick = some s ∧ finishT cx g fn K t = finishT cx g fn K (.leaf s)
  | .fail, h => by simp [finishT, Res.bad] at h
  | .leaf s, h => ⟨s, rfl, rfl⟩
  | .node true t e, h => finishT_pick t h
  | .node false t e, h => finishT_pick e h
theorem retDec_ok {g : Sig} {fn : Func} {st : St T} (h : (retDec cx g fn st).ok = true) : st.ok = true := by
  unfold retDec at h
  have need : ∀ (l : List ResultVar) {vs : List Value} {st' : St T}, resultV cx st l = some (vs, st') → st'.ok = true → st.ok = true := by
    intro l
    induction l with
    | nil => intro vs st' h hok; simp [resultV] at h; rw [h.2]; exact hok
    | cons r l ih =>
      intro vs st' h hok
      cases r with
      | tmp t =>
        simp only [resultV] at h
        split at h
        · rename_i l1 st1 h1; simp at h; rw [← h.2] at hok; exact ih h1 hok
        · cases h
      | cell x t =>
        simp only [resultV] at h
        split at h
        · split at h
          · rename_i g _ _ l1 st1 h1
            simp at h; rw [← h.2] at hok
            refine ih h1 ?_
            cases g with
            | none => exact hok
            | some g => simp [St.need] at hok; exact hok.1
          · cases h
        · cases h
  split at h
  · rename_i h1
    split at h
    · split at h
      · split at h
        · exact need _ h1 h
        · simp [Res.bad] at h
      · simp [Res.bad] at h
    · simp [Res.bad] at h
  · simp [Res.bad] at h
theorem panDec_ok {g : Sig} {v : Value} {st : St T} (h : (panDec cx g v st).ok = true) : st.ok = true := by
  unfold panDec at h
  split at h
  · simp [Res.bad] at h
  · split at h
    · split at h
      · exact h
      · simp [Res.bad] at h
    · simp [Res.bad] at h
def KOK (cx : Cx T) (g : Sig) (fn : Func) (E0 : Emb) (w0 : World) (H0 : List (Ob T)) (K : List It → St T → Res T g) : Prop :=
  ∀ todo st, (K todo st).ok = true → st.ok = true ∧ ∀ E a w, CR cx g.eff E0 w0 H0 [] E st a w → a.defers = [] → postK cx.P todo (bodyPost cx.P fn (EndOK cx.glob g E0 w0 H0 (K todo st))) .normal a w
theorem stop_sound {g : Sig} {fn : Func} {E0 : Emb} {w0 : World} {H0 : List (Ob T)} {K : List It → St T → Res T g} (hK : KOK cx g fn E0 w0 H0 K) {s : Stop T} (hok : (finishT cx g fn K (.leaf s)).ok = true) :
    s.state.ok = true ∧ ∀ E st a w, a.defers = [] → StopK cx g.eff E0 w0 H0 [] E st a w (bodyPost cx.P fn (EndOK cx.glob g E0 w0 H0 (finishT cx g fn K (.leaf s)))) s := by
  cases s with
  | ret st1 => exact ⟨retDec_ok (cx := cx) hok, fun E st a w hd a' w' E' hd' hc => ret_sound hc (hd'.trans hd) hok⟩
  | done st1 => exact ⟨retDec_ok (cx := cx) hok, fun E st a w hd a' w' E' hd' hc _ => ret_sound hc (hd'.trans hd) hok⟩
  | pan v st1 => exact ⟨panDec_ok (cx := cx) hok, fun E st a w hd v' a' w' E' hd' hc hv => pan_sound hc (hd'.trans hd) hv hok⟩
  | cut l st1 => exact ⟨(hK l st1 hok).1, fun E st a w hd a' w' E' hd' hc => (hK l st1 hok).2 E' a' w' hc (hd'.trans hd)⟩
  | exit i st1 => simp [finishT, Res.bad] at hok
def VS.len : VS → Nat
  | .unit => 0
  | .pair a b => a.len + b.len
  | _ => 1
theorem enc_len_true (ρ : Nat → Nat) : ∀ (s : VS) (x : s.ty) (l : List Value), (s.enc ρ true x l).length = s.len + l.length := by
  intro s
  induction s with
  | pair a b iha ihb => intro x l; simp only [VS.enc, VS.len]; rw [iha, ihb]; omega
  | unit => intro x l; simp [VS.enc, VS.len]
  | _ => intro x l; simp [VS.enc, VS.len]; try omega
theorem argEnv_get : ∀ (l : List Value) (i t : Nat), getE (argEnv i l) t = if i ≤ t then l.getD (t - i) undef else undef
  | [], i, t => by simp [argEnv, getE]
  | v :: r, i, t => by
    simp only [argEnv, getE_cons]
    rw [argEnv_get r (i + 1) t]
    by_cases h : i = t
    · subst h; simp
    · rw [if_neg h]
      by_cases h2 : i ≤ t
      · rw [if_pos h2, if_pos (by omega), show t - i = (t - (i + 1)) + 1 by omega]; simp
      · rw [if_neg h2, if_neg (by omega)]
def FOK (P : Program) (glob : Nat → Option (Ob T)) (f : FuncId) (g : Sig) (F : g.args.ty → tysO T g.hp → Res T g) : Prop :=
  ∀ (a : g.args.ty) (h : tysO T g.hp), (F a h).ok = true → ∀ (E0 : Emb) (w0 : World) (args' : List Value), PW E0 g.hp.length (g.args.enc rid true a []) args' → Sim glob E0 (encO rid g.hp h) w0 →
    Calls P f ⟨args'⟩ w0 (EndOK glob g E0 w0 (encO rid g.hp h) (F a h))
theorem encO_getS : ∀ {l : List OS} {y : tysO T l} {p : Nat} {o : Ob T}, (encO rid l y)[p]? = some o → ∃ (s : OS) (x : s.ty T), l[p]? = some s ∧ o = s.enc rid x
  | [], y, p, o, h => by simp [encO] at h
  | s :: r, y, 0, o, h => by simp [encO] at h; exact ⟨s, y.1, rfl, h.symm⟩
  | s :: r, y, p + 1, o, h => by
    obtain ⟨s', x, h1, h2⟩ := encO_getS (l := r) (y := y.2) (p := p) (by simpa [encO] using h)
    exact ⟨s', x, by simpa using h1, h2⟩
theorem kill_live {g : Sig} {h : tysO T g.hp} {E0 : Emb} {w0 : World} (he : effOk g.eff g.hp = true) {glob : Nat → Option (Ob T)} (hS : Sim glob E0 (encO rid g.hp h) w0) {id : Nat} (hst : ¬ stays g.eff id) (hid : id < g.eff.length)
    (hlv : live0 E0 (encO rid g.hp h) id) : live E0 (encO rid g.hp h) id := by
  have hkill : ∀ (p : Nat) (e : TypeId), g.eff[p]? = some .kill → g.hp[p]? ≠ some (.row false e) := fun p e h => (effOk_spec he).2 p e .kill h (by simp)
  obtain ⟨o, ho, hs⟩ := hlv
  refine ⟨o, ho, ?_⟩
  have hk : g.eff[id]? = some .kill := by
    rw [List.getElem?_eq_getElem hid]
    by_cases e : g.eff[id] = .kill
    · rw [e]
    · exact absurd ⟨_, List.getElem?_eq_getElem hid, e⟩ hst
  obtain ⟨s, x, h5, h6⟩ := encO_getS ho
  have hob := hS.ob id o (by rw [lookO_lt (by have := hS.le; have := (List.getElem?_eq_some_iff.1 ho).1; omega)]; exact ho)
  cases s with
  | dead => subst h6; exact hs.elim
  | flat s => subst h6; exact trivial
  | row wr e =>
    subst h6
    cases wr with
    | false => exact absurd h5 (hkill id e hk)
    | true =>
      obtain ⟨_, _, _, _, h7⟩ := hob
      rcases h7 with h7 | ⟨c, t, fr, _, h8, _⟩
      · exact absurd h7 hs
      · exact ⟨hs, (h8 rfl).2.2⟩
end
end Go.Proofs.YtlflclfhldghbaaGreatDoor.Ls
end
section
namespace Go.Proofs.YtlflclfhldghbaaGreatDoor.Ls
open Go
section
variable {T : TypeId → VS}
theorem PW.split {E : Emb} {N : Nat} {l m l' : List Value} (h : PW E N (l ++ m) l') : ∃ a b, l' = a ++ b ∧ PW E N l a ∧ PW E N m b := by
  have hl := h.1
  simp at hl
  refine ⟨l'.take l.length, l'.drop l.length, (List.take_append_drop _ _).symm, ?_, ?_⟩
  · have := h.take l.length
    simpa using this
  · have := h.drop l.length
    simpa using this
theorem PW.one {E : Emb} {N : Nat} {v : Value} {l : List Value} (h : PW E N [v] l) : ∃ v', l = [v'] ∧ VR E N v v' := by
  obtain ⟨u, r, rfl, hv, hr⟩ := h.inv_cons
  rw [hr.inv_nil]; exact ⟨u, rfl, hv⟩
theorem PW_rename {E E' : Emb} {N N' : Nat} {ρ : Nat → Nat} (hρ : ∀ i, okId N i → E' (ρ i) = E i ∧ okId N' (ρ i)) : ∀ (s : VS) (m : Bool) (x : s.ty) (l' : List Value), PW E N (s.enc rid m x []) l' → PW E' N' (s.enc ρ m x []) l' := by
  have one : ∀ {v u : Value} {l' : List Value}, PW E N [v] l' → (∀ v', VR E N v v' → VR E' N' u v') → PW E' N' [u] l' := by
    intro v u l' h k
    obtain ⟨v', rfl, hv⟩ := h.one
    exact .cons (k v' hv) .nil
  intro s
  induction s with
  | any => intro m x l' h; exact one h (fun v' _ => .any v')
  | unit => intro m x l' h; rw [h.inv_nil]; exact .nil
  | bool => intro m x l' h; exact one h (fun v' hv => by rw [hv.scalar_eq rfl]; exact .scal _ rfl)
  | str => intro m x l' h; exact one h (fun v' hv => by rw [hv.scalar_eq rfl]; exact .scal _ rfl)
  | int k => intro m x l' h; exact one h (fun v' hv => by rw [hv.scalar_eq rfl]; exact .scal _ rfl)
  | ptr i o =>
    intro m x l' h
    refine one h (fun v' hv => ?_)
    cases hv with
    | scal _ hs => simp [scalar] at hs
    | ptr a hk =>
      obtain ⟨h1, h2⟩ := hρ i hk
      have := VR.ptr (E := E') (N := N') ⟨ρ i, o, none⟩ h2
      simp only [locA] at this ⊢
      rw [h1] at this; exact this
  | eptr i j =>
    intro m x l' h
    refine one h (fun v' hv => ?_)
    cases hv with
    | scal _ hs => simp [scalar] at hs
    | ptr a hk =>
      obtain ⟨h1, h2⟩ := hρ i hk
      have := VR.ptr (E := E') (N := N') ⟨ρ i, x, some j⟩ h2
      simp only [locA] at this ⊢
      rw [h1] at this; exact this
  | nilp => intro m x l' h; exact one h (fun v' hv => by cases hv; exact .scal _ rfl)
  | sl i =>
    intro m x l' h
    refine one h (fun v' hv => ?_)
    cases hv with
    | scal _ hs => simp [scalar] at hs
    | wsl _ c hk hc hl =>
      obtain ⟨h1, h2⟩ := hρ i hk
      have := VR.wsl (E := E') (N := N') (ρ i) c h2 (by rw [h1]; exact hc) (by rw [h1]; exact hl)
      rw [h1] at this; exact this
    | wsl0 _ y hk hn =>
      obtain ⟨h1, h2⟩ := hρ i hk
      exact .wsl0 (ρ i) y h2 (by rw [h1]; exact hn)
    | fsl _ _ _ _ hk hn _ => exact absurd rfl hn
  | gsl i =>
    intro m x l' h
    refine one h (fun v' hv => ?_)
    obtain ⟨x1, x2, x3⟩ := x
    cases hv with
    | scal _ hs => simp [scalar] at hs
    | gsl _ _ _ _ c' hk hn hc hN hl =>
      obtain ⟨h1, h2⟩ := hρ i hk
      have := VR.gsl (E := E') (N := N') (ρ i) x1 x2 x3 c' h2 hn hc (by rw [h1]; exact hN) (by rw [h1]; exact hl)
      simp only [locA] at this ⊢
      rw [h1] at this; exact this
    | gsl0 _ _ y hk hN =>
      obtain ⟨h1, h2⟩ := hρ i hk
      exact .gsl0 (ρ i) x1 y h2 (by rw [h1]; exact hN)
  | fn f s ih =>
    intro m x l' h
    refine one h (fun v' hv => ?_)
    cases hv with
    | scal _ hs => simp [scalar] at hs
    | func _ _ fs' _ cs' h1 h2 h3 h4 =>
      have hp : PW E N (s.enc rid true x []) cs'.toList := ⟨by simpa using h3, fun i v v' hv hv' => h4 i v v' (by simpa using hv) (by simpa using hv')⟩
      have hp' := ih true x _ hp
      exact .func _ _ _ _ _ h1 (fun i v v' hv => by simp at hv) (by simpa using hp'.1) (fun i v v' hv hv' => hp'.2 i v v' (by simpa using hv) (by simpa using hv'))
  | fnm f s ih =>
    intro m x l' h
    refine one h (fun v' hv => ?_)
    cases hv with
    | scal _ hs => simp [scalar] at hs
    | func _ _ fs' _ cs' h1 h2 h3 h4 =>
      have hp : PW E N (s.enc rid true x []) fs'.toList := ⟨by simpa using h1, fun i v v' hv hv' => h2 i v v' (by simpa using hv) (by simpa using hv')⟩
      have hp' := ih true x _ hp
      exact .func _ _ _ _ _ (by simpa using hp'.1) (fun i v v' hv hv' => hp'.2 i v v' (by simpa using hv) (by simpa using hv')) h3 (fun i v v' hv => by simp at hv)
  | nilf => intro m x l' h; exact one h (fun v' hv => by cases hv; exact .scal _ rfl)
  | iface t s ih =>
    intro m x l' h
    have hl : (s.enc ρ true x []).length = (s.enc rid true x []).length := by rw [enc_len_true, enc_len_true]
    simp only [VS.enc] at h ⊢
    generalize h1 : s.enc rid true x [] = e1 at h hl
    generalize h2 : s.enc ρ true x [] = e2 at hl ⊢
    match e1, e2, hl with
    | [], [], _ => exact one h (fun v' _ => .any v')
    | [v], [u], _ =>
      refine one h (fun v' hv => ?_)
      cases hv with
      | scal _ hs => simp [scalar] at hs
      | iface _ _ v'' hv =>
        have := ih true x [v''] (by rw [h1]; exact .cons hv .nil)
        rw [h2] at this
        obtain ⟨y, e, hy⟩ := this.one
        cases e
        exact .iface t _ _ hy
    | _ :: _ :: _, _ :: _ :: _, _ => exact one h (fun v' _ => .any v')
  | nili => intro m x l' h; exact one h (fun v' hv => by cases hv; exact .scal _ rfl)
  | agg s ih =>
    intro m x l' h
    cases m with
    | true =>
      refine one h (fun v' hv => ?_)
      obtain ⟨cs', rfl, hp⟩ := hv.agg_inv
      exact VR.agg_mk (ih false x _ hp)
    | false => exact ih false x l' h
  | tup s ih =>
    intro m x l' h
    have hl : (s.enc ρ true x []).length = (s.enc rid true x []).length := by rw [enc_len_true, enc_len_true]
    simp only [VS.enc] at h ⊢
    have ih := ih true x
    generalize s.enc rid true x [] = e1 at h hl ih
    generalize s.enc ρ true x [] = e2 at hl ih ⊢
    refine one h (fun v' hv => ?_)
    cases hv with
    | scal _ hs => simp [scalar] at hs
    | any =>
      have := List.eq_nil_of_length_eq_zero hl; subst this
      exact .any _
    | tup _ cs' h1 h2 =>
      exact VR.tup_mk (ih _ ⟨by simpa using h1, fun i v v' hv hv' => h2 i v v' (by simpa using hv) (by simpa using hv')⟩)
  | pair a b iha ihb =>
    intro m x l' h
    simp only [VS.enc] at h ⊢
    rw [enc_tail'] at h ⊢
    obtain ⟨p, q, rfl, h1, h2⟩ := h.split
    exact (iha m x.1 p h1).append (ihb m x.2 q h2)
theorem ObR_rename {E E' : Emb} {N N' : Nat} {ρ : Nat → Nat} (hρ : ∀ i, okId N i → E' (ρ i) = E i ∧ okId N' (ρ i)) {w : World} (o : OS) (x : o.ty T) {i : Nat} (hi : okId N i) (h : ObR E N i w (o.enc rid x)) :
    ObR E' N' (ρ i) w (o.enc ρ x) ∧ (solid E' (ρ i) (o.enc ρ x) → solid E i (o.enc rid x)) ∧ (solid0 E' (ρ i) (o.enc ρ x) → solid0 E i (o.enc rid x)) := by
  have e := (hρ i hi).1
  cases o with
  | dead => exact ⟨trivial, fun h => h, fun h => h⟩
  | flat s =>
    obtain ⟨c, t, h1, h2, h3⟩ := h
    have hl : (s.enc ρ false x []).length = (s.enc rid false x []).length := by rw [plain_len, plain_len]
    refine ⟨⟨c, t, by rw [e]; exact h1, ?_, fun j v hv => ?_⟩, fun _ => trivial, fun _ => trivial⟩
    · rw [e, hl]; exact h2
    · have hp : PW E N (s.enc rid false x []) ((c.toList.drop (E i).base).take (s.enc rid false x []).length) := by
        refine ⟨?_, fun k u u' hu hu' => ?_⟩
        · simp; omega
        · have hk := (List.getElem?_eq_some_iff.1 hu).1
          obtain ⟨v', q1, q2⟩ := h3 k u hu
          rw [List.getElem?_take, if_pos hk, List.getElem?_drop] at hu'
          have : c.toList[(E i).base + k]? = some v' := by simpa using q1
          rw [this] at hu'; cases hu'; exact q2
      have hp' := PW_rename hρ s false x _ hp
      have hj := (List.getElem?_eq_some_iff.1 hv).1
      obtain ⟨v', q1, q2⟩ := hp'.get hv
      rw [List.getElem?_take, if_pos (by rw [← hl]; exact hj), List.getElem?_drop] at q1
      exact ⟨v', by rw [e]; simpa using q1, q2⟩
  | row wr t =>
    obtain ⟨h1, h2, h3, h4, h5⟩ := h
    exact ⟨⟨h1, by rw [e]; exact h2, by rw [e]; exact h3, by rw [e]; exact h4, by rw [e]; exact h5⟩, fun hs => by
      have hs : (E' (ρ i)).lim ≠ 0 ∧ (E' (ρ i)).rw = true := hs
      rw [e] at hs; exact hs, fun hs => by
      have hs : (E' (ρ i)).lim ≠ 0 := hs
      rw [e] at hs; exact hs⟩
end
end Go.Proofs.YtlflclfhldghbaaGreatDoor.Ls
end
section
namespace Go.Proofs.YtlflclfhldghbaaGreatDoor.Ls
open Go
section
variable {T : TypeId → VS}
structure IdSpec (A : Asg) (i : Nat) (l : List OS) (H : List (Ob T)) (ids : List Nat) (H1 : List (Ob T)) : Prop where
  len : ids.length = l.length
  pre : ∀ j, j < H.length → H1[j]? = H[j]?
  le : H.length ≤ H1.length
  get : ∀ k, k < l.length → (∃ b, A.find (i + k) = some (.obj b) ∧ ids[k]? = some b) ∨
    ((∀ b, A.find (i + k) ≠ some (.obj b)) ∧ ∃ n, ids[k]? = some n ∧ H.length ≤ n ∧ n < H1.length ∧ (H1[n]? = some .dead ∨ (A.find (i + k) = some .nil ∧ ∃ w e, l[k]? = some (.row w e) ∧ H1[n]? = some (.row true e []))))
  inj : ∀ (k k' n : Nat), H.length ≤ n → ids[k]? = some n → ids[k']? = some n → k = k'
  onto : ∀ (n : Nat), H.length ≤ n → n < H1.length → ∃ k : Nat, ids[k]? = some n
theorem bindIds_spec : ∀ (l : List OS) (i : Nat) (A : Asg) (H : List (Ob T)), (∀ k b, A.find k = some (.obj b) → b < H.length) → IdSpec A i l H (bindIds l i A H).1 (bindIds l i A H).2
  | [], i, A, H, hb => ⟨rfl, fun _ _ => rfl, Nat.le_refl _, fun k h => by simp at h, fun k k' n _ h => by simp [bindIds] at h, fun n h1 h2 => by simp [bindIds] at h2; omega⟩
  | o :: r, i, A, H, hb => by
    have more : ∀ (x : Ob T), (∀ b, A.find i ≠ some (.obj b)) → (x = .dead ∨ (A.find i = some .nil ∧ ∃ w e, o = .row w e ∧ x = .row true e [])) →
        IdSpec A i (o :: r) H (H.length :: (bindIds r (i + 1) A (H ++ [x])).1) (bindIds r (i + 1) A (H ++ [x])).2 := by
      intro x hne hx
      have ih := bindIds_spec r (i + 1) A (H ++ [x]) (fun k b hk => by have := hb k b hk; simp; omega)
      have hat : (bindIds r (i + 1) A (H ++ [x])).2[H.length]? = some x := by rw [ih.pre H.length (by simp)]; simp
      have hle := ih.le
      simp at hle
      refine ⟨by simp [ih.len], fun j hj => ?_, by omega, fun k hk => ?_, fun k k' n hn h1 h2 => ?_, fun n h1 h2 => ?_⟩
      · rw [ih.pre j (by simp; omega)]; simp [List.getElem?_append, hj]
      · cases k with
        | zero =>
          refine .inr ⟨hne, H.length, rfl, Nat.le_refl _, by omega, ?_⟩
          rcases hx with rfl | ⟨h1, w, e, rfl, rfl⟩
          · exact .inl hat
          · exact .inr ⟨h1, w, e, rfl, hat⟩
        | succ k =>
          have := ih.get k (by simpa using hk)
          rw [show i + 1 + k = i + (k + 1) by omega] at this
          rcases this with h | ⟨h1, n, h2, h3, h4⟩
          · exact .inl (by simpa using h)
          · exact .inr ⟨h1, n, by simpa using h2, by simp at h3; omega, by simpa using h4⟩
      · cases k with
        | zero =>
          cases k' with
          | zero => rfl
          | succ k' =>
            simp at h1; subst h1
            exfalso
            have h2 : (bindIds r (i + 1) A (H ++ [x])).1[k']? = some H.length := by simpa using h2
            have hk' : k' < r.length := by rw [← ih.len]; exact (List.getElem?_eq_some_iff.1 h2).1
            rcases ih.get k' hk' with ⟨b, q1, q2⟩ | ⟨q1, n, q2, q3, _⟩
            · rw [h2] at q2; cases q2; have := hb _ _ q1; omega
            · rw [h2] at q2; cases q2; simp at q3; omega
        | succ k =>
          cases k' with
          | zero =>
            simp at h2; subst h2
            exfalso
            have h1 : (bindIds r (i + 1) A (H ++ [x])).1[k]? = some H.length := by simpa using h1
            have hk' : k < r.length := by rw [← ih.len]; exact (List.getElem?_eq_some_iff.1 h1).1
            rcases ih.get k hk' with ⟨b, q1, q2⟩ | ⟨q1, n, q2, q3, _⟩
            · rw [h1] at q2; cases q2; have := hb _ _ q1; omega
            · rw [h1] at q2; cases q2; simp at q3; omega
          | succ k' =>
            have h1 : (bindIds r (i + 1) A (H ++ [x])).1[k]? = some n := by simpa using h1
            have h2 : (bindIds r (i + 1) A (H ++ [x])).1[k']? = some n := by simpa using h2
            by_cases hn' : n = H.length
            · subst hn'
              have hk' : k < r.length := by rw [← ih.len]; exact (List.getElem?_eq_some_iff.1 h1).1
              rcases ih.get k hk' with ⟨b, q1, q2⟩ | ⟨q1, n, q2, q3, _⟩
              · rw [h1] at q2; cases q2; have := hb _ _ q1; omega
              · rw [h1] at q2; cases q2; simp at q3; omega
            · rw [ih.inj k k' n (by simp; omega) h1 h2]
      · by_cases hn' : n = H.length
        · exact ⟨0, by simp [hn']⟩
        · obtain ⟨k, hk⟩ := ih.onto n (by simp; omega) h2
          exact ⟨k + 1, by simpa using hk⟩
    unfold bindIds
    split
    · rename_i b hf
      have ih := bindIds_spec r (i + 1) A H hb
      refine ⟨by simp [ih.len], ih.pre, ih.le, fun k hk => ?_, fun k k' n hn h1 h2 => ?_, fun n h1 h2 => ?_⟩
      · cases k with
        | zero => exact .inl ⟨b, hf, rfl⟩
        | succ k =>
          have := ih.get k (by simpa using hk)
          rw [show i + 1 + k = i + (k + 1) by omega] at this
          rcases this with h | ⟨h1, n, h2, h3, h4⟩
          · exact .inl (by simpa using h)
          · exact .inr ⟨h1, n, by simpa using h2, h3, by simpa using h4⟩
      · have hbl := hb i b hf
        cases k with
        | zero => simp at h1; omega
        | succ k =>
          cases k' with
          | zero => simp at h2; omega
          | succ k' => rw [ih.inj k k' n hn (by simpa using h1) (by simpa using h2)]
      · obtain ⟨k, hk⟩ := ih.onto n h1 h2
        exact ⟨k + 1, by simpa using hk⟩
    · rename_i hf
      split
      · rename_i w e
        exact more _ (fun b h => by rw [hf] at h; cases h) (.inr ⟨hf, w, e, rfl, rfl⟩)
      · exact more _ (fun b h => by rw [hf] at h; cases h) (.inl rfl)
    · rename_i h1 h2
      exact more _ (fun b h => h1 b h) (.inl rfl)
theorem killIds_len : ∀ (ef : List Eff) (ids : List Nat) (n : Nat), ef.length = ids.length → (killIds ef ids n).length = ids.length
  | [], [], n, _ => rfl
  | [], _ :: _, n, h => by simp at h
  | _ :: _, [], n, h => by simp at h
  | e :: s, i :: l, n, h => by
    cases e <;> simp [killIds, killIds_len s l _ (by simpa using h)]
theorem killIds_get : ∀ (ef : List Eff) (ids : List Nat) (n k : Nat), ef.length = ids.length → k < ids.length →
    (ef[k]? = some .kill ∧ ∃ r, (killIds ef ids n)[k]? = some r ∧ n ≤ r ∧ r < n + (kills (T := T) ef).length) ∨ (ef[k]? ≠ some .kill ∧ (killIds ef ids n)[k]? = ids[k]?)
  | [], [], n, k, _, hk => by simp at hk
  | [], _ :: _, n, k, h, _ => by simp at h
  | _ :: _, [], n, k, h, _ => by simp at h
  | e :: s, i :: l, n, 0, h, _ => by
    cases e <;> simp [killIds, kills]
  | e :: s, i :: l, n, k + 1, h, hk => by
    cases e with
    | kill =>
      rcases killIds_get s l (n + 1) k (by simpa using h) (by simpa using hk) with ⟨h1, r, h2, h3, h4⟩ | ⟨h1, h2⟩
      · exact .inl ⟨by simpa using h1, r, by simpa [killIds] using h2, by omega, by simp [kills]; omega⟩
      · exact .inr ⟨by simpa using h1, by simpa [killIds] using h2⟩
    | keep =>
      rcases killIds_get s l n k (by simpa using h) (by simpa using hk) with ⟨h1, r, h2, h3, h4⟩ | ⟨h1, h2⟩
      · exact .inl ⟨by simpa using h1, r, by simpa [killIds] using h2, by omega, by simp [kills]; omega⟩
      · exact .inr ⟨by simpa using h1, by simpa [killIds] using h2⟩
    | upd =>
      rcases killIds_get s l n k (by simpa using h) (by simpa using hk) with ⟨h1, r, h2, h3, h4⟩ | ⟨h1, h2⟩
      · exact .inl ⟨by simpa using h1, r, by simpa [killIds] using h2, by omega, by simp [kills]; omega⟩
      · exact .inr ⟨by simpa using h1, by simpa [killIds] using h2⟩
theorem killIds_inj : ∀ (ef : List Eff) (ids : List Nat) (n : Nat), ef.length = ids.length → (∀ (k x : Nat), ids[k]? = some x → x < n) → ∀ (k k' r : Nat), n ≤ r → (killIds ef ids n)[k]? = some r → (killIds ef ids n)[k']? = some r → k = k'
  | [], _, n, _, _, k, k', r, _, h, _ => by simp [killIds] at h
  | _ :: _, [], n, h, _, _, _, _, _, _, _ => by simp at h
  | e :: s, i :: l, n, h, hid, k, k', r, hr, h1, h2 => by
    have hs : s.length = l.length := by simpa using h
    have hidl : ∀ (k x : Nat), l[k]? = some x → x < n := fun k x hx => hid (k + 1) x (by simpa using hx)
    have hi0 : i < n := hid 0 i rfl
    cases e with
    | kill =>
      have low : ∀ k : Nat, (killIds s l (n + 1))[k]? = some n → False := by
        intro k hk
        have hkl : k < l.length := by rw [← killIds_len s l (n + 1) hs]; exact (List.getElem?_eq_some_iff.1 hk).1
        rcases killIds_get (T := fun _ => .unit) s l (n + 1) k hs hkl with ⟨_, r', q1, q2, _⟩ | ⟨_, q1⟩
        · rw [hk] at q1; cases q1; omega
        · rw [hk] at q1; have := hidl k n q1.symm; omega
      cases k with
      | zero =>
        simp [killIds] at h1; subst h1
        cases k' with
        | zero => rfl
        | succ k' => exact (low k' (by simpa [killIds] using h2)).elim
      | succ k =>
        cases k' with
        | zero => simp [killIds] at h2; subst h2; exact (low k (by simpa [killIds] using h1)).elim
        | succ k' =>
          by_cases hrn : r = n
          · subst hrn; exact (low k (by simpa [killIds] using h1)).elim
          · rw [killIds_inj s l (n + 1) hs (fun k x hx => by have := hidl k x hx; omega) k k' r (by omega) (by simpa [killIds] using h1) (by simpa [killIds] using h2)]
    | keep =>
      cases k with
      | zero => simp [killIds] at h1; omega
      | succ k =>
        cases k' with
        | zero => simp [killIds] at h2; omega
        | succ k' => rw [killIds_inj s l n hs hidl k k' r hr (by simpa [killIds] using h1) (by simpa [killIds] using h2)]
    | upd =>
      cases k with
      | zero => simp [killIds] at h1; omega
      | succ k =>
        cases k' with
        | zero => simp [killIds] at h2; omega
        | succ k' => rw [killIds_inj s l n hs hidl k k' r hr (by simpa [killIds] using h1) (by simpa [killIds] using h2)]
theorem kills_get : ∀ (ef : List Eff) (j : Nat) (o : Ob T), (kills ef)[j]? = some o → o = .dead
  | [], j, o, h => by simp [kills] at h
  | .kill :: s, 0, o, h => by simp [kills] at h; exact h.symm
  | .kill :: s, j + 1, o, h => kills_get s j o (by simpa [kills] using h)
  | .keep :: s, j, o, h => kills_get s j o (by simpa [kills] using h)
  | .upd :: s, j, o, h => kills_get s j o (by simpa [kills] using h)
theorem touched_mem {id : Nat} : ∀ (ef : List Eff) (ids : List Nat), ef.length = ids.length → (id ∈ touched ef ids ↔ ∃ p, moved ef p ∧ ids[p]? = some id)
  | [], ids, _ => by simp [touched, moved]
  | _ :: _, [], h => by simp at h
  | e :: s, i :: l, h => by
    have ih := touched_mem (id := id) s l (by simpa using h)
    have mv : ∀ p, moved (e :: s) (p + 1) ↔ moved s p := by intro p; simp [moved]
    have up : (∃ p, moved s p ∧ l[p]? = some id) → ∃ p, moved (e :: s) p ∧ (i :: l)[p]? = some id := fun ⟨p, h1, h2⟩ => ⟨p + 1, (mv p).2 h1, by simpa using h2⟩
    have m0 : moved (e :: s) 0 ↔ e ≠ .keep := by simp [moved]
    cases e with
    | keep =>
      simp only [touched]
      rw [ih]
      refine ⟨up, ?_⟩
      rintro ⟨p, h1, h2⟩
      cases p with
      | zero => exact absurd rfl (m0.1 h1)
      | succ p => exact ⟨p, (mv p).1 h1, by simpa using h2⟩
    | upd =>
      simp only [touched, List.mem_cons]
      rw [ih]
      constructor
      · rintro (rfl | h)
        · exact ⟨0, m0.2 (by simp), rfl⟩
        · exact up h
      · rintro ⟨p, h1, h2⟩
        cases p with
        | zero => simp at h2; exact .inl h2.symm
        | succ p => exact .inr ⟨p, (mv p).1 h1, by simpa using h2⟩
    | kill =>
      simp only [touched, List.mem_cons]
      rw [ih]
      constructor
      · rintro (rfl | h)
        · exact ⟨0, m0.2 (by simp), rfl⟩
        · exact up h
      · rintro ⟨p, h1, h2⟩
        cases p with
        | zero => simp at h2; exact .inl h2.symm
        | succ p => exact .inr ⟨p, (mv p).1 h1, by simpa using h2⟩
theorem applyOut_len : ∀ (ef : List Eff) (os : List (Ob T)) (ids : List Nat) (H : List (Ob T)), (applyOut ef os ids H).length = H.length := by
  intro ef
  induction ef with
  | nil => intro os ids H; simp [applyOut]
  | cons e s ih =>
    intro os ids H
    cases os with
    | nil => cases e <;> simp [applyOut]
    | cons o os =>
      cases ids with
      | nil => cases e <;> simp [applyOut]
      | cons i l => cases e <;> simp [applyOut, ih, setO]
theorem applyOut_other {id : Nat} : ∀ (ef : List Eff) (os : List (Ob T)) (ids : List Nat) (H : List (Ob T)), (∀ p, moved ef p → ids[p]? ≠ some id) → (applyOut ef os ids H)[id]? = H[id]? := by
  intro ef
  induction ef with
  | nil => intro os ids H _; simp [applyOut]
  | cons e s ih =>
    intro os ids H h
    have mv : ∀ p, moved (e :: s) (p + 1) ↔ moved s p := by intro p; simp [moved]
    cases os with
    | nil => cases e <;> simp [applyOut]
    | cons o os =>
      cases ids with
      | nil => cases e <;> simp [applyOut]
      | cons i l =>
        have hs : ∀ p, moved s p → l[p]? ≠ some id := fun p hp => by have := h (p + 1) ((mv p).2 hp); simpa using this
        cases e with
        | keep => simp only [applyOut]; exact ih os l H hs
        | upd =>
          have hi : i ≠ id := fun e => h 0 ⟨.upd, rfl, by simp⟩ (by simp [e])
          simp only [applyOut]; rw [ih os l _ hs]; simp only [setO]; rw [List.getElem?_set_ne hi]
        | kill =>
          have hi : i ≠ id := fun e => h 0 ⟨.kill, rfl, by simp⟩ (by simp [e])
          simp only [applyOut]; rw [ih os l _ hs]; simp only [setO]; rw [List.getElem?_set_ne hi]
theorem applyOut_at {id p : Nat} {o : Ob T} : ∀ (ef : List Eff) (os : List (Ob T)) (ids : List Nat) (H : List (Ob T)), (∀ p', moved ef p' → ids[p']? = some id → p' = p) → moved ef p → ids[p]? = some id → id < H.length → os[p]? = some o →
    (ef[p]? = some .upd → (applyOut ef os ids H)[id]? = some o) ∧ (ef[p]? = some .kill → (applyOut ef os ids H)[id]? = some .dead) := by
  intro ef
  induction ef generalizing p with
  | nil => intro os ids H _ h; simp [moved] at h
  | cons e s ih =>
    intro os ids H hinj hm hid hlt ho
    have mv : ∀ p, moved (e :: s) (p + 1) ↔ moved s p := by intro p; simp [moved]
    cases os with
    | nil => simp at ho
    | cons x os =>
      cases ids with
      | nil => simp at hid
      | cons i l =>
        cases p with
        | zero =>
          simp at hid ho; subst hid; subst ho
          have hs : ∀ p, moved s p → l[p]? ≠ some i := fun p hp he => by have := hinj (p + 1) ((mv p).2 hp) (by simpa using he); omega
          cases e with
          | keep => simp [moved] at hm
          | upd => refine ⟨fun _ => ?_, fun h => by simp at h⟩; simp only [applyOut]; rw [applyOut_other s os l _ hs]; simp [setO, hlt]
          | kill => refine ⟨fun h => by simp at h, fun _ => ?_⟩; simp only [applyOut]; rw [applyOut_other s os l _ hs]; simp [setO, hlt]
        | succ p =>
          have hinj' : ∀ p', moved s p' → l[p']? = some id → p' = p := fun p' h1 h2 => by have := hinj (p' + 1) ((mv p').2 h1) (by simpa using h2); omega
          have k := fun H hl => ih os l H hinj' ((mv p).1 hm) (by simpa using hid) hl (by simpa using ho)
          cases e with
          | keep => simp only [applyOut]; simpa using k H hlt
          | upd => simp only [applyOut]; simpa using k (setO H i x) (by simp [setO]; exact hlt)
          | kill => simp only [applyOut]; simpa using k (setO H i .dead) (by simp [setO]; exact hlt)
theorem deaden_len : ∀ (D : List Nat) (H : List (Ob T)), (deaden D H).length = H.length
  | [], H => rfl
  | i :: r, H => by simp [deaden, deaden_len r, setO]
theorem deaden_other {id : Nat} : ∀ (D : List Nat) (H : List (Ob T)), id ∉ D → (deaden D H)[id]? = H[id]?
  | [], H, _ => rfl
  | i :: r, H, h => by
    simp at h
    simp only [deaden]; rw [deaden_other r _ h.2]; simp only [setO]; rw [List.getElem?_set_ne (fun e => h.1 e.symm)]
theorem deaden_dead {id : Nat} : ∀ (D : List Nat) (H : List (Ob T)), H[id]? = some .dead → (deaden D H)[id]? = some .dead
  | [], H, h => h
  | i :: r, H, h => by
    simp only [deaden]
    refine deaden_dead r _ ?_
    simp only [setO]
    by_cases e : i = id
    · subst e; have := (List.getElem?_eq_some_iff.1 h).1; simp [this]
    · rw [List.getElem?_set_ne e]; exact h
theorem deaden_mem {id : Nat} : ∀ (D : List Nat) (H : List (Ob T)), id ∈ D → id < H.length → (deaden D H)[id]? = some .dead
  | [], H, h, _ => by simp at h
  | i :: r, H, h, hl => by
    simp at h
    simp only [deaden]
    by_cases e : id = i
    · subst e; exact deaden_dead r _ (by simp [setO, hl])
    · exact deaden_mem r _ (h.resolve_left e) (by simp [setO]; exact hl)
end
end Go.Proofs.YtlflclfhldghbaaGreatDoor.Ls
end
section
namespace Go.Proofs.YtlflclfhldghbaaGreatDoor.Ls
open Go
section
variable {T : TypeId → VS} {glob : Nat → Option (Ob T)}
theorem encO_get : ∀ (l : List OS) (y : tysO T l) (k : Nat) (o : OS), l[k]? = some o → ∃ x : o.ty T, ∀ ρ, (encO ρ l y)[k]? = some (o.enc ρ x)
  | [], y, k, o, h => by simp at h
  | o' :: r, y, 0, o, h => by simp at h; subst h; exact ⟨y.1, fun ρ => rfl⟩
  | o' :: r, y, k + 1, o, h => by
    obtain ⟨x, hx⟩ := encO_get r y.2 k o (by simpa using h)
    exact ⟨x, fun ρ => by simpa [encO] using hx ρ⟩
theorem encO_lenρ (ρ : Nat → Nat) : ∀ (l : List OS) (y : tysO T l), (encO ρ l y).length = l.length
  | [], _ => rfl
  | o :: r, y => by simp [encO, encO_lenρ ρ r]
theorem outs_len : ∀ (l : List OS) (ef : List Eff), (outs l ef).length = l.length
  | [], ef => by simp [outs]
  | o :: r, [] => by simp [outs, outs_len r]
  | o :: r, e :: s => by cases e <;> simp [outs, outs_len r]
theorem overO_len : ∀ (l s : List OS), (overO l s).length = l.length
  | [], [] => rfl
  | [], _ :: _ => rfl
  | _ :: _, [] => rfl
  | _ :: r, _ :: s => by simp [overO, overO_len r s]
theorem viewsKept_mem : ∀ (ef : List Eff) (i : Nat) (A : Asg), viewsKept i ef A = true → ∀ p, moved ef p → ∀ b o n, A.find (i + p) ≠ some (.view b o n)
  | [], i, A, h, p, hm, b, o, n => by simp [moved] at hm
  | e :: s, i, A, h, p, hm, b, o, n => by
    have mv : ∀ p, moved (e :: s) (p + 1) ↔ moved s p := by intro p; simp [moved]
    have rest : viewsKept (i + 1) s A = true → ∀ p, moved (e :: s) (p + 1) → A.find (i + (p + 1)) ≠ some (.view b o n) := by
      intro h p hm
      have := viewsKept_mem s (i + 1) A h p ((mv p).1 hm) b o n
      rw [show i + 1 + p = i + (p + 1) by omega] at this; exact this
    cases e with
    | keep =>
      simp only [viewsKept] at h
      cases p with
      | zero => simp [moved] at hm
      | succ p => exact rest h p hm
    | upd =>
      simp only [viewsKept] at h
      split at h
      · cases h
      · rename_i hne
        cases p with
        | zero => intro hf; exact hne b o n (by simpa using hf)
        | succ p => exact rest h p hm
    | kill =>
      simp only [viewsKept] at h
      split at h
      · cases h
      · rename_i hne
        cases p with
        | zero => intro hf; exact hne b o n (by simpa using hf)
        | succ p => exact rest h p hm
theorem ret_core {H : List (Ob T)} {E : Emb} {w w' : World} (hS : Sim glob E H w) {g : Sig} {h : tysO T g.hp} {A : Asg} (hA : AOK E H.length A)
    (s1 : Sim glob (EA T E w.heap.size g.hp A) (encO rid g.hp h) w)
    (s4 : ∀ k, live0 (EA T E w.heap.size g.hp A) (encO rid g.hp h) k → k < GB ∧ ∃ t b, A.find k = some t ∧ tgtB t = some b ∧ b < GB ∧ live0 E H b ∧ (live (EA T E w.heap.size g.hp A) (encO rid g.hp h) k → live E H b) ∧ (EA T E w.heap.size g.hp A k).blk = (E b).blk)
    (hn : nodupN (tgtIds A) = true) (hv : viewsKept 0 g.eff A = true) (hel : g.eff.length = g.hp.length) (heff : effOk g.eff g.hp = true) {out : tysO T g.out} {E1 : Emb}
    (fr : FR glob g.eff (EA T E w.heap.size g.hp A) w (encO rid g.hp h) (encO rid g.out out) E1 w')
    {ids : List Nat} {H1 : List (Ob T)} (sp : IdSpec A 0 g.hp H ids H1) {ρ : Nat → Nat} (hρd : ρ = rho (H1 ++ kills g.eff).length g.m (killIds g.eff ids H1.length))
    {H' : List (Ob T)} (hH' : H' = applyOut g.eff (encO ρ g.out out) ids (H1 ++ kills g.eff) ++ (encO ρ g.out out).drop g.m) (hle : H'.length ≤ GB) :
    ∃ E' : Emb, (∀ i, okId g.out.length i → E' (ρ i) = E1 i ∧ okId H'.length (ρ i)) ∧ Stp glob E ⟨[], H, [], [], 0, true⟩ w E' ⟨[], H', touched g.eff ids, [], 0, true⟩ w' := by
  classical
  generalize hE0 : EA T E w.heap.size g.hp A = E0 at s1 s4 fr
  generalize hH2 : H1 ++ kills g.eff = H2 at hρd hH'
  generalize hR : killIds g.eff ids H1.length = R at hρd
  generalize hOs : encO ρ g.out out = os at hH'
  have hm : g.m = g.hp.length := rfl
  have hol : g.out.length = g.m + g.news.length := by
    show (outs (overO g.hp g.hpo) g.eff ++ g.news).length = g.hp.length + _
    rw [List.length_append, outs_len, overO_len]
  have hosl : os.length = g.out.length := by rw [← hOs, encO_lenρ]
  have hmGB : g.m ≤ GB := by have := s1.le; rw [encO_len] at this; exact this
  have hoGB : g.out.length ≤ GB := by have := fr.sim.le; rw [encO_len] at this; exact this
  have hidl : ids.length = g.m := sp.len
  have hefl : g.eff.length = ids.length := by rw [hel, hidl, hm]
  have hH2l : H2.length = H1.length + (kills (T := T) g.eff).length := by rw [← hH2]; simp
  have hH'l : H'.length = H2.length + g.news.length := by
    rw [hH', List.length_append, applyOut_len, List.length_drop, hosl, hol]; omega
  have hHH : H.length ≤ H2.length := by have := sp.le; omega
  have hbl : ∀ k b, A.find k = some (.obj b) → b < H.length := fun k b hf => (hA k _ hf).2
  have hidlt : ∀ (k x : Nat), ids[k]? = some x → x < H1.length := by
    intro k x hk
    have hkl : k < g.hp.length := by rw [← sp.len]; exact (List.getElem?_eq_some_iff.1 hk).1
    rcases sp.get k hkl with ⟨b, q1, q2⟩ | ⟨_, n, q2, _, q3, _⟩
    · rw [hk] at q2; cases q2; have := hbl _ _ q1; have := sp.le; omega
    · rw [hk] at q2; cases q2; exact q3
  have hRl : R.length = g.m := by rw [← hR, killIds_len _ _ _ hefl, hidl]
  have hRget : ∀ k, k < g.m → (g.eff[k]? = some .kill ∧ ∃ r, R[k]? = some r ∧ H1.length ≤ r ∧ r < H2.length) ∨ (g.eff[k]? ≠ some .kill ∧ R[k]? = ids[k]?) := by
    intro k hk
    rcases killIds_get (T := T) g.eff ids H1.length k hefl (by rw [hidl]; exact hk) with ⟨q1, r, q2, q3, q4⟩ | ⟨q1, q2⟩
    · exact .inl ⟨q1, r, by rw [← hR]; exact q2, q3, by omega⟩
    · exact .inr ⟨q1, by rw [← hR]; exact q2⟩
  have hRinj : ∀ (k k' x : Nat), H.length ≤ x → R[k]? = some x → R[k']? = some x → k = k' := by
    intro k k' x hx h1 h2
    by_cases hb : H1.length ≤ x
    · exact killIds_inj g.eff ids H1.length hefl hidlt k k' x hb (by rw [hR]; exact h1) (by rw [hR]; exact h2)
    · have back : ∀ k : Nat, R[k]? = some x → ids[k]? = some x := by
        intro k hk
        have hkl : k < g.m := by rw [← hRl]; exact (List.getElem?_eq_some_iff.1 hk).1
        rcases hRget k hkl with ⟨_, r, q2, q3, _⟩ | ⟨_, q2⟩
        · rw [hk] at q2; cases q2; omega
        · rw [← q2]; exact hk
      exact sp.inj k k' x hx (back k h1) (back k' h2)
  have hRlt : ∀ (k x : Nat), R[k]? = some x → x < H2.length := by
    intro k x hk
    have hkl : k < g.m := by rw [← hRl]; exact (List.getElem?_eq_some_iff.1 hk).1
    rcases hRget k hkl with ⟨_, r, q2, _, q3⟩ | ⟨_, q2⟩
    · rw [hk] at q2; cases q2; exact q3
    · rw [hk] at q2; have := hidlt k x q2.symm; omega
  let E' : Emb := fun id => if id < H.length ∨ GB ≤ id then E id else if hx : ∃ k : Nat, R[k]? = some id then E1 (Classical.choose hx) else E1 (g.m + (id - H2.length))
  have hE'old : ∀ id, okId H.length id → E' id = E id := fun id hid => if_pos hid
  have hE'r : ∀ (k x : Nat), R[k]? = some x → H.length ≤ x → x < GB → E' x = E1 k := by
    intro k x hk h1 h2
    have hx : ∃ k : Nat, R[k]? = some x := ⟨k, hk⟩
    show (if x < H.length ∨ GB ≤ x then E x else if hx : ∃ k : Nat, R[k]? = some x then E1 (Classical.choose hx) else E1 (g.m + (x - H2.length))) = E1 k
    rw [if_neg (by omega), dif_pos hx, hRinj _ k x h1 (Classical.choose_spec hx) hk]
  have hE'n : ∀ j, H2.length ≤ j → j < GB → E' j = E1 (g.m + (j - H2.length)) := by
    intro j h1 h2
    show (if j < H.length ∨ GB ≤ j then E j else if hx : ∃ k : Nat, R[k]? = some j then E1 (Classical.choose hx) else E1 (g.m + (j - H2.length))) = _
    rw [if_neg (by omega), dif_neg (by rintro ⟨k, hk⟩; have := hRlt k j hk; omega)]
  have ρge : ∀ i, GB ≤ i → ρ i = i := by intro i hi; rw [hρd]; simp [rho, Nat.ble_eq_true_of_le hi]
  have ρlt : ∀ i x, i < g.m → R[i]? = some x → ρ i = x := by
    intro i x hi hx
    rw [hρd]
    have h1 : Nat.ble GB i = false := by
      cases hb : Nat.ble GB i with
      | false => rfl
      | true => have := Nat.le_of_ble_eq_true hb; omega
    have h2 : Nat.blt i g.m = true := by simp only [Nat.blt]; exact Nat.ble_eq_true_of_le hi
    simp [rho, h1, h2, List.getD, hx]
  have ρn : ∀ i, g.m ≤ i → i < GB → ρ i = H2.length + (i - g.m) := by
    intro i hi hg
    rw [hρd]
    have h1 : Nat.ble GB i = false := by
      cases hb : Nat.ble GB i with
      | false => rfl
      | true => have := Nat.le_of_ble_eq_true hb; omega
    have h2 : Nat.blt i g.m = false := by
      cases hb : Nat.blt i g.m with
      | false => rfl
      | true => simp only [Nat.blt] at hb; have := Nat.le_of_ble_eq_true hb; omega
    simp [rho, h1, h2]
  have hstay : ∀ k, k < g.m → g.eff[k]? ≠ some .kill → stays g.eff k := by
    intro k hk hne
    have : k < g.eff.length := by rw [hefl, hidl]; exact hk
    exact ⟨g.eff[k], by simp [this], fun e => hne (by simp [this, e])⟩
  have hE0b : ∀ k b, A.find k = some (.obj b) → k < g.m → E0 k = E b := by
    intro k b hf hk
    rw [← hE0]; exact EA_obj hf (by omega)
  have hρ : ∀ i, okId g.out.length i → E' (ρ i) = E1 i ∧ okId H'.length (ρ i) := by
    intro i hi
    by_cases hg : GB ≤ i
    · rw [ρge i hg, hE'old i (.inr hg), fr.gl i hg, ← hE0, EA_ge hg]
      exact ⟨rfl, .inr hg⟩
    · have hil : i < g.out.length := by rcases hi with h | h; exact h; omega
      by_cases him : i < g.m
      · rcases hRget i him with ⟨q1, r, q2, q3, q4⟩ | ⟨q1, q2⟩
        · rw [ρlt i r him q2]
          exact ⟨hE'r i r q2 (by have := sp.le; omega) (by omega), .inl (by omega)⟩
        · rcases sp.get i (by rw [← hm]; exact him) with ⟨b, q3, q4⟩ | ⟨_, n, q4, q5, q6, _⟩
          · rw [q4] at q2
            rw [Nat.zero_add] at q3
            have := hbl _ _ q3
            rw [ρlt i b him q2, hE'old b (.inl this), ← hE0b i b q3 him, fr.par i (hstay i him q1)]
            exact ⟨rfl, .inl (by omega)⟩
          · rw [q4] at q2
            rw [ρlt i n him q2]
            exact ⟨hE'r i n q2 q5 (by omega), .inl (by omega)⟩
      · rw [ρn i (by omega) (by omega), hE'n _ (by omega) (by omega)]
        exact ⟨by rw [show g.m + (H2.length + (i - g.m) - H2.length) = i by omega], .inl (by omega)⟩
  have hD : ∀ id, id ∈ touched g.eff ids ↔ ∃ p, moved g.eff p ∧ ids[p]? = some id := fun id => touched_mem _ _ hefl
  have hmvl : ∀ p, moved g.eff p → p < g.m := by
    rintro p ⟨e, he, _⟩
    rw [← hidl, ← hefl]; exact (List.getElem?_eq_some_iff.1 he).1
  have mv0 : ∀ p, moved g.eff p → live0 E0 (encO rid g.hp h) p → live E0 (encO rid g.hp h) p := by
    rintro p ⟨e, he, hne⟩ ⟨o, ho, hs⟩
    refine ⟨o, ho, ?_⟩
    obtain ⟨s, x, h5, h6⟩ := encO_getS ho
    have hpl : p < GB := by
      have := (List.getElem?_eq_some_iff.1 ho).1
      have := s1.le
      omega
    have hob := s1.ob p o (by rw [lookO_lt hpl]; exact ho)
    cases s with
    | dead => subst h6; exact hs.elim
    | flat s => subst h6; exact trivial
    | row wr ty =>
      subst h6
      cases wr with
      | false => exact absurd h5 ((effOk_spec heff).2 p ty e he hne)
      | true =>
        obtain ⟨_, _, _, _, h7⟩ := hob
        rcases h7 with h7 | ⟨c, t, fr, _, h8, _⟩
        · exact absurd h7 hs
        · exact ⟨hs, (h8 rfl).2.2⟩
  have mvb : ∀ p, moved g.eff p → live E0 (encO rid g.hp h) p → ∃ d, d ∈ touched g.eff ids ∧ ids[p]? = some d ∧ d < H.length ∧ live E H d ∧ (E0 p).blk = (E d).blk := by
    intro p hp hlv
    obtain ⟨hg, t, b, e1, e2, e3, _, e4, e5⟩ := s4 p hlv.to0
    have e4 := e4 hlv
    have ht : t = .obj b := by
      cases t with
      | nil => simp [tgtB] at e2
      | obj b' => simp [tgtB] at e2; rw [e2]
      | view b' o n => exact absurd e1 (by have := viewsKept_mem g.eff 0 A hv p hp b' o n; rwa [Nat.zero_add] at this)
    subst ht
    have hid : ids[p]? = some b := by
      rcases sp.get p (hmvl p hp) with ⟨b', q1, q2⟩ | ⟨q1, _⟩
      · rw [Nat.zero_add, e1] at q1; cases q1; exact q2
      · exact absurd e1 (by have := q1 b; rwa [Nat.zero_add] at this)
    exact ⟨b, (hD b).2 ⟨p, hp, hid⟩, hid, hbl _ _ e1, e4, e5⟩
  have blkOld : ∀ id o, lookO glob H id = some o → id ∉ touched g.eff ids → solid0 E id o → w'.heap[(E id).blk]? = w.heap[(E id).blk]? := by
    intro id o ho hid hs
    refine fr.fp.frame _ ((hS.ob id o ho).lt hs) (fun p hp hlv => ?_)
    obtain ⟨d, d1, _, d2, ⟨od, d3, d4⟩, d5⟩ := mvb p hp hlv
    rw [d5]
    have hdg : d < GB := by have := hS.le; omega
    exact (hS.sep id d o od (fun e => hid (e ▸ d1)) ho (by rw [lookO_lt hdg]; exact d3) hs d4).symm
  have idinj : ∀ (p p' x : Nat), ids[p]? = some x → ids[p']? = some x → p = p' := by
    intro p p' x h1 h2
    by_cases hx : H.length ≤ x
    · exact sp.inj p p' x hx h1 h2
    · have obj : ∀ p : Nat, ids[p]? = some x → A.find p = some (.obj x) := by
        intro p hp
        have hpl : p < g.hp.length := by rw [← sp.len]; exact (List.getElem?_eq_some_iff.1 hp).1
        rcases sp.get p hpl with ⟨b, q1, q2⟩ | ⟨_, n, q2, q3, _⟩
        · rw [hp] at q2; cases q2; rwa [Nat.zero_add] at q1
        · rw [hp] at q2; cases q2; omega
      exact nodup_tgt hn p p' _ _ x (obj p h1) (obj p' h2) rfl rfl
  have cls : ∀ id o, H'[id]? = some o → (id < H.length ∧ id ∉ touched g.eff ids ∧ H[id]? = some o) ∨ o = .dead ∨
      (∃ k, k < g.out.length ∧ ρ k = id ∧ os[k]? = some o ∧ (k < g.m → g.eff[k]? = some .upd)) ∨
      (∃ k wr e, k < g.m ∧ ρ k = id ∧ A.find k = some .nil ∧ g.hp[k]? = some (.row wr e) ∧ stays g.eff k ∧ H.length ≤ id ∧ o = .row true e []) := by
    intro id o ho
    have hAl : (applyOut g.eff os ids H2).length = H2.length := applyOut_len _ _ _ _
    rw [hH'] at ho
    by_cases h2 : id < H2.length
    · rw [List.getElem?_append_left (by rw [hAl]; exact h2)] at ho
      by_cases hp : ∃ p, moved g.eff p ∧ ids[p]? = some id
      · obtain ⟨p, hp, hpi⟩ := hp
        have hpm := hmvl p hp
        have hpo : p < os.length := by rw [hosl, hol]; omega
        obtain ⟨f1, f2⟩ := applyOut_at (o := os[p]) g.eff os ids H2 (fun p' _ hp' => idinj p' p id hp' hpi) hp hpi h2 (by simp [hpo])
        obtain ⟨e, he, hne⟩ := hp
        cases e with
        | keep => exact absurd rfl hne
        | upd =>
          rw [f1 he] at ho
          refine .inr (.inr (.inl ⟨p, by rw [hol]; omega, ?_, by rw [← ho]; simp [hpo], fun _ => he⟩))
          rcases hRget p hpm with ⟨q1, _⟩ | ⟨_, q2⟩
          · rw [he] at q1; cases q1
          · exact ρlt p id hpm (by rw [q2]; exact hpi)
        | kill => rw [f2 he] at ho; cases ho; exact .inr (.inl rfl)
      · rw [applyOut_other _ _ _ _ (fun p hp' he => hp ⟨p, hp', he⟩)] at ho
        by_cases h3 : id < H1.length
        · rw [← hH2, List.getElem?_append_left h3] at ho
          by_cases h4 : id < H.length
          · rw [sp.pre id h4] at ho
            exact .inl ⟨h4, fun hd => hp ((hD id).1 hd), ho⟩
          · obtain ⟨k, hk⟩ := sp.onto id (by omega) h3
            have hkm : k < g.m := by rw [← hidl]; exact (List.getElem?_eq_some_iff.1 hk).1
            rcases sp.get k hkm with ⟨b, q1, q2⟩ | ⟨_, n, q2, _, _, q3⟩
            · rw [hk] at q2; cases q2; have := hbl _ _ q1; omega
            · rw [hk] at q2; cases q2
              rcases q3 with q3 | ⟨q3, wr, e, q4, q5⟩
              · rw [q3] at ho; cases ho; exact .inr (.inl rfl)
              · rw [q5] at ho; cases ho
                have hkeep : g.eff[k]? ≠ some .kill := fun he => hp ⟨k, ⟨.kill, he, by simp⟩, hk⟩
                refine .inr (.inr (.inr ⟨k, wr, e, hkm, ?_, by rwa [Nat.zero_add] at q3, q4, hstay k hkm hkeep, by omega, rfl⟩))
                rcases hRget k hkm with ⟨q1, _⟩ | ⟨_, q2⟩
                · exact absurd q1 hkeep
                · exact ρlt k id hkm (by rw [q2]; exact hk)
        · rw [← hH2, List.getElem?_append_right (by omega)] at ho
          exact .inr (.inl (kills_get _ _ _ ho))
    · rw [List.getElem?_append_right (by rw [hAl]; omega), hAl, List.getElem?_drop] at ho
      have hl := (List.getElem?_eq_some_iff.1 ho).1
      rw [hosl] at hl
      refine .inr (.inr (.inl ⟨g.m + (id - H2.length), hl, ?_, ho, fun h => by omega⟩))
      rw [ρn _ (by omega) (by omega)]; omega
  have hE1n : ∀ k e wr, k < g.m → A.find k = some .nil → stays g.eff k → g.hp[k]? = some (.row wr e) → (T e).plain = true ∧ (E1 k).es = (T e).size ∧ (E1 k).n = 0 ∧ (E1 k).lim = 0 := by
    intro k e wr hk hf hst hl
    rw [fr.par k hst]
    obtain ⟨x, hx⟩ := encO_get g.hp h k _ hl
    have ho := s1.ob k _ (by rw [lookO_lt (by omega)]; exact hx rid)
    obtain ⟨q1, q2, _⟩ := ho
    have e0 : E0 k = ⟨w.heap.size, 0, 0, esOf T g.hp k, 0, true⟩ := by rw [← hE0]; exact EA_none hf (by omega)
    exact ⟨q1, q2, by rw [e0], by rw [e0]⟩
  have new_ : ∀ k o, k < g.out.length → os[k]? = some o → ObR E' H'.length (ρ k) w' o ∧ (solid E' (ρ k) o → live E1 (encO rid g.out out) k) ∧ (solid0 E' (ρ k) o → live0 E1 (encO rid g.out out) k) := by
    intro k o c1 c3
    obtain ⟨oS, hoS⟩ : ∃ oS, g.out[k]? = some oS := ⟨g.out[k], by simp [c1]⟩
    obtain ⟨x, hx⟩ := encO_get g.out out k oS hoS
    have : os[k]? = some (oS.enc ρ x) := by rw [← hOs]; exact hx ρ
    rw [this] at c3; cases c3
    have hob := fr.sim.ob k _ (by rw [lookO_lt (by omega)]; exact hx rid)
    rw [encO_len] at hob
    obtain ⟨f1, f2, f3⟩ := ObR_rename (E := E1) (E' := E') hρ oS x (.inl c1) hob
    exact ⟨f1, fun hs => ⟨_, hx rid, f2 hs⟩, fun hs => ⟨_, hx rid, f3 hs⟩⟩
  have dlt : ∀ d, d ∈ touched g.eff ids → d < GB := by
    intro d hd
    obtain ⟨p, _, hp⟩ := (hD d).1 hd
    have := hidlt p d hp
    omega
  have src : ∀ id o, lookO glob H' id = some o → solid0 E' id o →
      (lookO glob H id = some o ∧ id ∉ touched g.eff ids ∧ (solid0 E id o ∧ (solid E' id o → solid E id o)) ∧ E' id = E id ∧ (id < GB → id < H.length)) ∨
      (∃ k, k < g.out.length ∧ ρ k = id ∧ (live0 E1 (encO rid g.out out) k ∧ (solid E' id o → live E1 (encO rid g.out out) k)) ∧ E' id = E1 k ∧ (k < g.m → g.eff[k]? = some .upd)) := by
    intro id o ho hs
    by_cases hg : GB ≤ id
    · rw [lookO_ge hg] at ho
      have e := hE'old id (.inr hg)
      exact .inl ⟨by rw [lookO_ge hg]; exact ho, fun hd => by have := dlt id hd; omega, ⟨solid0_eq e hs, solid_eq e⟩, e, fun h => by omega⟩
    · rw [lookO_lt (by omega)] at ho
      rcases cls id o ho with ⟨c1, c2, c3⟩ | rfl | ⟨k, c1, c2, c3, c4⟩ | ⟨k, wr, e, c1, c2, c3, c4, c5, c6, rfl⟩
      · have e := hE'old id (.inl c1)
        exact .inl ⟨by rw [lookO_lt (by omega)]; exact c3, c2, ⟨solid0_eq e hs, solid_eq e⟩, e, fun _ => c1⟩
      · exact hs.elim
      · subst c2
        exact .inr ⟨k, c1, rfl, ⟨(new_ k o c1 c3).2.2 hs, (new_ k o c1 c3).2.1⟩, (hρ k (.inl c1)).1, c4⟩
      · subst c2
        exfalso
        have hs : (E' (ρ k)).lim ≠ 0 := hs
        rw [(hρ k (.inl (by omega))).1] at hs
        exact hs (hE1n k e wr c1 c3 c5 c4).2.2.2
  have deep : ∀ k, k < g.out.length → (k < g.m → g.eff[k]? = some .upd) → live0 E1 (encO rid g.out out) k → w.heap.size ≤ (E1 k).blk ∨
      ∃ d, d ∈ touched g.eff ids ∧ d < H.length ∧ live E H d ∧ (E1 k).blk = (E d).blk ∧ (k < g.m → ids[k]? = some d) := by
    intro k hk c4 hlv
    by_cases hst : stays g.eff k
    · have hkm : k < g.m := by have := stays_lt hst; rw [← hidl, ← hefl]; exact this
      obtain ⟨d, d1, d2, d3, d4, d5⟩ := mvb k ⟨.upd, c4 hkm, by simp⟩ (mv0 k ⟨.upd, c4 hkm, by simp⟩ ((fr.old k hst).2 hlv))
      rw [fr.par k hst]
      exact .inr ⟨d, d1, d3, d4, d5, fun _ => d2⟩
    · rcases fr.loc k (by rw [encO_len]; exact hk) hst hlv with hl | ⟨p, p1, p2, p3⟩
      · exact .inl hl
      · obtain ⟨d, d1, d2, d3, d4, d5⟩ := mvb p p1 p2
        exact .inr ⟨d, d1, d3, d4, by rw [p3]; exact d5, fun hkm => absurd (hstay k hkm (by rw [c4 hkm]; simp)) hst⟩
  refine ⟨E', hρ, ⟨⟨hle, ?_, ?_, ?_, hS.gok⟩, by show H.length ≤ H'.length; omega, hE'old, fr.fp.os, fr.fp.tape, fr.fp.out, fr.fp.size, ?_, ?_, ?_, fun id hd => (by cases hd), rfl, ?_⟩⟩
  · intro id o ho
    have old_ : lookO glob H id = some o → id ∉ touched g.eff ids → ObR E' H'.length id w' o := by
      intro ho hid
      refine (hS.ob id o ho).step (hE'old id (lookO_ok ho)) hE'old (by omega) (fun hs => blkOld id o ho hid hs)
    by_cases hg : GB ≤ id
    · rw [lookO_ge hg] at ho
      exact old_ (by rw [lookO_ge hg]; exact ho) (fun hd => by have := dlt id hd; omega)
    · rw [lookO_lt (by omega)] at ho
      rcases cls id o ho with ⟨c1, c2, c3⟩ | rfl | ⟨k, c1, c2, c3, c4⟩ | ⟨k, wr, e, c1, c2, c3, c4, c5, c6, rfl⟩
      · exact old_ (by rw [lookO_lt (by omega)]; exact c3) c2
      · trivial
      · subst c2; exact (new_ k o c1 c3).1
      · subst c2
        obtain ⟨q1, q2, q3, q4⟩ := hE1n k e wr c1 c3 c5 c4
        have ek := (hρ k (.inl (by omega))).1
        exact ⟨q1, by rw [ek]; exact q2, by rw [ek, q3]; rfl, by rw [ek, q3]; omega, .inl (by rw [ek]; exact q4)⟩
  · intro i j oi oj hij hi hj hsi hsj
    have apart : ∀ i oi k, lookO glob H i = some oi → i ∉ touched g.eff ids → solid0 E i oi → k < g.out.length → (k < g.m → g.eff[k]? = some .upd) → live0 E1 (encO rid g.out out) k → (E i).blk ≠ (E1 k).blk := by
      intro i oi k h1 h2 h3 hk c4 hlv
      rcases deep k hk c4 hlv with hl | ⟨d, d1, d2, ⟨od, d3, d4⟩, d5, _⟩
      · have := (hS.ob i oi h1).lt h3; omega
      · rw [d5]
        have hdg : d < GB := dlt d d1
        exact hS.sep i d oi od (fun e => h2 (e ▸ d1)) h1 (by rw [lookO_lt hdg]; exact d3) h3 d4
    rcases src i oi hi hsi with ⟨i1, i2, i3, i4, _⟩ | ⟨k, i1, i2, i3, i4, i5⟩ <;> rcases src j oj hj hsj.to0 with ⟨j1, j2, j3, j4, _⟩ | ⟨k', j1, j2, j3, j4, j5⟩
    · rw [i4, j4]; exact hS.sep i j oi oj hij i1 j1 i3.1 (j3.2 hsj)
    · rw [i4, j4]; exact apart i oi k' i1 i2 i3.1 j1 j5 j3.1
    · rw [i4, j4]; exact (apart j oj k j1 j2 j3.1 i1 i5 i3.1).symm
    · rw [i4, j4]
      obtain ⟨o1, p1, p2⟩ := i3.1
      obtain ⟨o2, p3, p4⟩ := j3.2 hsj
      exact fr.sim.sep k k' o1 o2 (fun e => hij (by rw [← i2, ← j2, e])) (by rw [lookO_lt (by omega)]; exact p1) (by rw [lookO_lt (by omega)]; exact p3) p2 p4
  · intro id hid; rw [hE'old id (.inr hid)]; exact hS.glo id hid
  · intro b hb hT
    refine fr.fp.frame b hb (fun p hp hlv => ?_)
    obtain ⟨d, d1, d2, d3, d4, d5⟩ := mvb p hp hlv
    rw [d5]; exact hT d d1 d3 d4
  · rintro id h1 h2 ⟨o, ho, hs⟩
    have h2 : id < H'.length := h2
    have h1 : H.length ≤ id := h1
    rcases src id o (by rw [lookO_lt (by omega)]; exact ho) hs with ⟨_, _, _, _, c⟩ | ⟨k, i1, i2, i3, i4, i5⟩
    · have := c (by omega); omega
    · rw [i4]
      rcases deep k i1 i5 i3.1 with hl | ⟨d, d1, d2, d3, d4, _⟩
      · exact .inl hl
      · exact .inr ⟨d, d1, d2, d3, d4⟩
  · intro id hid hd
    have hid : id < H.length := hid
    show H'[id]? = H[id]?
    rw [hH', List.getElem?_append_left (by rw [applyOut_len]; omega), applyOut_other _ _ _ _ (fun p hp he => hd ((hD id).2 ⟨p, hp, he⟩)), ← hH2, List.getElem?_append_left (by have := sp.le; omega), sp.pre id hid]
  · have key : ∀ id, id < H.length → ∀ o, H'[id]? = some o → solid0 E' id o → live0 E H id ∧ (solid E' id o → live E H id) := by
      intro id hid o ho hs
      have hg : id < GB := by omega
      rcases src id o (by rw [lookO_lt hg]; exact ho) hs with ⟨c1, _, c2, _, _⟩ | ⟨k, i1, i2, i3, i4, i5⟩
      · exact ⟨⟨o, by rw [lookO_lt hg] at c1; exact c1, c2.1⟩, fun h => ⟨o, by rw [lookO_lt hg] at c1; exact c1, c2.2 h⟩⟩
      · by_cases hkm : k < g.m
        · rcases hRget k hkm with ⟨q1, _⟩ | ⟨q1, q2⟩
          · rw [i5 hkm] at q1; cases q1
          · obtain ⟨d, d1, d2, d3, d4, d5⟩ := mvb k ⟨.upd, i5 hkm, by simp⟩ (mv0 k ⟨.upd, i5 hkm, by simp⟩ ((fr.old k (hstay k hkm q1)).2 i3.1))
            rw [d2] at q2
            have := ρlt k d hkm q2
            rw [i2] at this; subst this
            exact ⟨d4.to0, fun _ => d4⟩
        · have := ρn k (by omega) (by omega)
          omega
    exact fun id hid => ⟨fun ⟨o, ho, hs⟩ => (key id hid o ho hs.to0).2 hs, fun ⟨o, ho, hs⟩ => (key id hid o ho hs).1⟩
end
end Go.Proofs.YtlflclfhldghbaaGreatDoor.Ls
end
section
namespace Go.Proofs.YtlflclfhldghbaaGreatDoor.Ls
open Go
section
variable {T : TypeId → VS} {glob : Nat → Option (Ob T)}
theorem PW.inv_cons' {E : Emb} {N : Nat} {l : List Value} {v : Value} (h : PW E N l [v]) : ∃ y, headV l = y ∧ VR E N y v := by
  cases l with
  | nil => have := h.1; simp at this
  | cons u r => exact ⟨u, rfl, h.2 0 u v rfl rfl⟩
theorem plain_PW {E E' : Emb} {N N' : Nat} : ∀ (s : VS), s.plain = true → ∀ (m : Bool) (x : s.ty) (l' : List Value), PW E N (s.enc rid m x []) l' → PW E' N' (s.enc rid m x []) l' := by
  have one : ∀ {v : Value} {l' : List Value}, ground1 v = true → scalar v = true → PW E N [v] l' → PW E' N' [v] l' := by
    intro v l' hg hs h
    obtain ⟨v', rfl, hv⟩ := h.one
    rw [hv.scalar_eq hg]; exact .cons (.scal _ hs) .nil
  intro s
  induction s with
  | unit => intro _ m x l' h; rw [h.inv_nil]; exact .nil
  | bool => intro _ m x l' h; exact one rfl rfl h
  | str => intro _ m x l' h; exact one rfl rfl h
  | int k => intro _ m x l' h; exact one rfl rfl h
  | agg s ih =>
    intro hp m x l' h
    cases m with
    | true =>
      obtain ⟨v', rfl, hv⟩ := PW.one h
      obtain ⟨cs', rfl, hc⟩ := hv.agg_inv
      exact .cons (VR.agg_mk (ih hp false x _ hc)) .nil
    | false => exact ih hp false x l' h
  | pair a b iha ihb =>
    intro hp m x l' h
    simp [VS.plain] at hp
    simp only [VS.enc] at h ⊢
    rw [enc_tail'] at h ⊢
    obtain ⟨p, q, rfl, h1, h2⟩ := h.split
    exact (iha hp.1 m x.1 p h1).append (ihb hp.2 m x.2 q h2)
  | _ => intro hp; simp [VS.plain] at hp
theorem plainI_PW {E E' : Emb} {N N' : Nat} (s : VS) (hs : s.plainI = true) (x : s.ty) (l' : List Value) (h : PW E N (s.enc rid true x []) l') : PW E' N' (s.enc rid true x []) l' := by
  cases s with
  | iface t s =>
    have ih := plain_PW (E := E) (E' := E') (N := N) (N' := N') s hs true x
    simp only [VS.enc] at h ⊢
    generalize s.enc rid true x [] = e1 at h ih
    obtain ⟨v', rfl, hv⟩ := PW.one h
    match e1 with
    | [] => exact .cons (.any _) .nil
    | [v] =>
      cases hv with
      | scal _ hs => simp [scalar] at hs
      | iface _ _ v'' hv =>
        obtain ⟨y, e, hy⟩ := (ih [v''] (.cons hv .nil)).one
        cases e
        exact .cons (.iface t _ _ hy) .nil
    | _ :: _ :: _ => exact .cons (.any _) .nil
  | _ => exact plain_PW _ hs true x l' h
theorem pan_core {H : List (Ob T)} {E : Emb} {w w' : World} (hS : Sim glob E H w) {g : Sig} {h : tysO T g.hp} {A : Asg} (hA : AOK E H.length A)
    (s4 : ∀ k, live0 (EA T E w.heap.size g.hp A) (encO rid g.hp h) k → k < GB ∧ ∃ t b, A.find k = some t ∧ tgtB t = some b ∧ b < GB ∧ live0 E H b ∧ (live (EA T E w.heap.size g.hp A) (encO rid g.hp h) k → live E H b) ∧ (EA T E w.heap.size g.hp A k).blk = (E b).blk)
    (hv : viewsKept 0 g.eff A = true) (hel : g.eff.length = g.hp.length)
    (fp : FP g.eff (EA T E w.heap.size g.hp A) w (encO rid g.hp h) w')
    {ids : List Nat} {H1 : List (Ob T)} (sp : IdSpec A 0 g.hp H ids H1) :
    Stp glob E ⟨[], H, [], [], 0, true⟩ w E ⟨[], deaden (touched g.eff ids) H, touched g.eff ids, [], 0, true⟩ w' := by
  generalize hE0 : EA T E w.heap.size g.hp A = E0 at s4 fp
  have hefl : g.eff.length = ids.length := by rw [hel]; exact sp.len.symm
  have hD : ∀ id, id ∈ touched g.eff ids ↔ ∃ p, moved g.eff p ∧ ids[p]? = some id := fun id => touched_mem _ _ hefl
  have hmvl : ∀ p, moved g.eff p → p < g.hp.length := by
    rintro p ⟨e, he, _⟩
    rw [← hel]; exact (List.getElem?_eq_some_iff.1 he).1
  have mvb : ∀ p, moved g.eff p → live E0 (encO rid g.hp h) p → ∃ d, d ∈ touched g.eff ids ∧ d < H.length ∧ live E H d ∧ (E0 p).blk = (E d).blk := by
    intro p hp hlv
    obtain ⟨hg, t, b, e1, e2, e3, _, e4, e5⟩ := s4 p hlv.to0
    have e4 := e4 hlv
    have ht : t = .obj b := by
      cases t with
      | nil => simp [tgtB] at e2
      | obj b' => simp [tgtB] at e2; rw [e2]
      | view b' o n => exact absurd e1 (by have := viewsKept_mem g.eff 0 A hv p hp b' o n; rwa [Nat.zero_add] at this)
    subst ht
    have hid : ids[p]? = some b := by
      rcases sp.get p (hmvl p hp) with ⟨b', q1, q2⟩ | ⟨q1, _⟩
      · rw [Nat.zero_add, e1] at q1; cases q1; exact q2
      · exact absurd e1 (by have := q1 b; rwa [Nat.zero_add] at this)
    exact ⟨b, (hD b).2 ⟨p, hp, hid⟩, (hA p _ e1).2, e4, e5⟩
  have blkOld : ∀ id o, lookO glob H id = some o → id ∉ touched g.eff ids → solid0 E id o → w'.heap[(E id).blk]? = w.heap[(E id).blk]? := by
    intro id o ho hid hs
    refine fp.frame _ ((hS.ob id o ho).lt hs) (fun p hp hlv => ?_)
    obtain ⟨d, d1, d2, ⟨od, d3, d4⟩, d5⟩ := mvb p hp hlv
    rw [d5]
    have hdg : d < GB := by have := hS.le; omega
    exact (hS.sep id d o od (fun e => hid (e ▸ d1)) ho (by rw [lookO_lt hdg]; exact d3) hs d4).symm
  have hl := deaden_len (touched g.eff ids) H
  have back : ∀ id o, lookO glob (deaden (touched g.eff ids) H) id = some o → o = .dead ∨ (lookO glob H id = some o ∧ (id < GB → id ∉ touched g.eff ids)) := by
    intro id o ho
    by_cases hg : GB ≤ id
    · rw [lookO_ge hg] at ho; exact .inr ⟨by rw [lookO_ge hg]; exact ho, fun h => by omega⟩
    · rw [lookO_lt (by omega)] at ho
      have hil : id < H.length := by rw [← hl]; exact (List.getElem?_eq_some_iff.1 ho).1
      by_cases hd : id ∈ touched g.eff ids
      · rw [deaden_mem _ _ hd hil] at ho; cases ho; exact .inl rfl
      · rw [deaden_other _ _ hd] at ho; exact .inr ⟨by rw [lookO_lt (by omega)]; exact ho, fun _ => hd⟩
  refine ⟨⟨by show (deaden _ H).length ≤ GB; rw [hl]; exact hS.le, ?_, ?_, hS.glo, hS.gok⟩, by show H.length ≤ (deaden _ H).length; omega, fun _ _ => rfl, fp.os, fp.tape, fp.out, fp.size, ?_, ?_, ?_, fun id hd => (by cases hd), rfl, ?_⟩
  · intro id o ho
    rcases back id o ho with rfl | ⟨b1, b2⟩
    · trivial
    · refine (hS.ob id o b1).step rfl (fun _ _ => rfl) (by show H.length ≤ (deaden _ H).length; omega) (fun hs => ?_)
      by_cases hg : id < GB
      · exact blkOld id o b1 (b2 hg) hs
      · by_cases hd : id ∈ touched g.eff ids
        · refine fp.frame _ ((hS.ob id o b1).lt hs) (fun p hp hlv => ?_)
          obtain ⟨d, d1, d2, ⟨od, d3, d4⟩, d5⟩ := mvb p hp hlv
          rw [d5]
          have hdg : d < GB := by have := hS.le; omega
          exact (hS.sep id d o od (by omega) b1 (by rw [lookO_lt hdg]; exact d3) hs d4).symm
        · exact blkOld id o b1 hd hs
  · intro i j oi oj hij hi hj hsi hsj
    rcases back i oi hi with rfl | ⟨b1, _⟩
    · exact hsi.elim
    · rcases back j oj hj with rfl | ⟨c1, _⟩
      · exact hsj.elim
      · exact hS.sep i j oi oj hij b1 c1 hsi hsj
  · intro b hb hT
    refine fp.frame b hb (fun p hp hlv => ?_)
    obtain ⟨d, d1, d3, d4, d5⟩ := mvb p hp hlv
    rw [d5]; exact hT d d1 d3 d4
  · intro id h1 h2 _
    have h1 : H.length ≤ id := h1
    have h2 : id < (deaden (touched g.eff ids) H).length := h2
    omega
  · intro id hid hd
    exact deaden_other _ _ hd
  · refine fun id hid => ⟨?_, ?_⟩
    · rintro ⟨o, ho, hs⟩
      have hid : id < H.length := hid
      have hg : id < GB := by have := hS.le; omega
      rcases back id o (by rw [lookO_lt hg]; exact ho) with rfl | ⟨b1, _⟩
      · exact hs.elim
      · exact ⟨o, by rw [lookO_lt hg] at b1; exact b1, hs⟩
    · rintro ⟨o, ho, hs⟩
      have hid : id < H.length := hid
      have hg : id < GB := by have := hS.le; omega
      rcases back id o (by rw [lookO_lt hg]; exact ho) with rfl | ⟨b1, _⟩
      · exact hs.elim
      · exact ⟨o, by rw [lookO_lt hg] at b1; exact b1, hs⟩
theorem wrap_sound {P : Program} {f : FuncId} {g : Sig} {F : g.args.ty → tysO T g.hp → Res T g} (hF : FOK P glob f g F) {args : List Value} {H : List (Ob T)} {out : CallOut T}
    (hp : (wrap glob g F args H).pick = some out) (hok : out.ok = true) (hle : out.heap.length ≤ GB) {E : Emb} {w : World} {args' : List Value} (hargs : PW E H.length args args') (hS : Sim glob E H w) :
    Calls P f ⟨args'⟩ w (CallR glob E H w out) := by
  unfold wrap at hp
  split at hp
  · rename_i a A1 h1
    split at hp
    · rename_i h A h2
      split at hp
      · rename_i hnk hv hel
        simp at hnk hel
        obtain ⟨hn, hk⟩ := hnk
        obtain ⟨heff, hgl⟩ := hel
        have hel := (effOk_spec heff).1
        obtain ⟨d1, d2, c', r', d3, d4, d5⟩ := dec_sound (T := T) (W := w.heap.size) (M := g.hp.length) (os := g.hp) g.args true _ _ _ _ _ _ h1 hargs
        have := d4.inv_nil; subst this
        rw [List.append_nil] at d3
        have hA0 : AOK E H.length [] := by intro i t hi; simp [Asg.find] at hi
        obtain ⟨s1, s2, s3, s4⟩ := sim_EA (os := g.hp) hS h2 (d2 hA0) hn hk hgl
        have hpw := d5 A s3 (keysOk_lt hk)
        rw [← d3] at hpw
        have sp := bindIds_spec g.hp 0 A H (fun k b hf => (s2 k _ hf).2)
        have key : (F a h).ok = true → Calls P f ⟨args'⟩ w (EndOK glob g (EA T E w.heap.size g.hp A) w (encO rid g.hp h) (F a h)) := fun hok => hF a h hok _ w args' hpw s1
        have ret : ∀ out, (Tr.leaf (CallOut.ret (headV (g.ret.enc (rho ((bindIds g.hp 0 A H).2 ++ kills g.eff).length g.m (killIds g.eff (bindIds g.hp 0 A H).1 (bindIds g.hp 0 A H).2.length)) true (F a h).ret []))
            (applyOut g.eff (encO (rho ((bindIds g.hp 0 A H).2 ++ kills g.eff).length g.m (killIds g.eff (bindIds g.hp 0 A H).1 (bindIds g.hp 0 A H).2.length)) g.out (F a h).out) (bindIds g.hp 0 A H).1 ((bindIds g.hp 0 A H).2 ++ kills g.eff) ++ (encO (rho ((bindIds g.hp 0 A H).2 ++ kills g.eff).length g.m (killIds g.eff (bindIds g.hp 0 A H).1 (bindIds g.hp 0 A H).2.length)) g.out (F a h).out).drop g.m)
            (touched g.eff (bindIds g.hp 0 A H).1) (F a h).ok)).pick = some out → out.ok = true → out.heap.length ≤ GB → ∀ v w', EndOK glob g (EA T E w.heap.size g.hp A) w (encO rid g.hp h) (F a h) (.returned v) w' → CallR glob E H w out (.returned v) w' := by
          intro out hp hok hle v w' he
          have := pick_leaf hp; subst this
          obtain ⟨_, E1, fr, hvr⟩ := he
          obtain ⟨E', hρ, hst⟩ := ret_core hS s2 s1 s4 hn hv hel heff fr sp rfl rfl hle
          refine ⟨E', ?_, hst⟩
          obtain ⟨y, e, hy⟩ := (PW_rename hρ g.ret true _ _ hvr).inv_cons'
          rw [e]; exact hy
        have pan : ∀ ch w', EndOK glob g (EA T E w.heap.size g.hp A) w (encO rid g.hp h) (F a h) (.panicked ch) w' → CallR glob E H w (.pan (headV (g.pv.enc rid true (F a h).pv [])) (deaden (touched g.eff (bindIds g.hp 0 A H).1) H) (touched g.eff (bindIds g.hp 0 A H).1) (F a h).ok) (.panicked ch) w' := by
          intro ch w' he
          obtain ⟨_, _, hpl, v, E1, N, rfl, fp, hvr⟩ := he
          refine ⟨v, E, rfl, ?_, pan_core hS s2 s4 hv hel fp sp⟩
          obtain ⟨y, e, hy⟩ := (plainI_PW (E' := E) (N' := (deaden (touched g.eff (bindIds g.hp 0 A H).1) H).length) g.pv hpl _ _ hvr).inv_cons'
          rw [e]; exact hy
        simp only at hp
        split at hp
        · rename_i hpn
          have hok' : (F a h).ok = true := by have := pick_leaf hp; subst this; exact hok
          refine (key hok').mono (fun e w' he => ?_)
          cases e with
          | returned v => exact ret out hp hok hle v w' he
          | panicked ch => obtain ⟨_, hs, _⟩ := he; rw [hpn] at hs; cases hs
          | outgrown => exact he.elim
        · rename_i s hpn
          cases hb : (F a h).pan with
          | true =>
            rw [hb] at hp
            have hp : (Tr.leaf (CallOut.pan (headV (g.pv.enc rid true (F a h).pv [])) (deaden (touched g.eff (bindIds g.hp 0 A H).1) H) (touched g.eff (bindIds g.hp 0 A H).1) (F a h).ok)).pick = some out := hp
            have := pick_leaf hp; subst this
            refine (key hok).mono (fun e w' he => ?_)
            cases e with
            | returned v => obtain ⟨h, _⟩ := he; rw [hb] at h; cases h
            | panicked ch => exact pan ch w' he
            | outgrown => exact he.elim
          | false =>
            rw [hb] at hp
            simp only [Tr.pick] at hp
            have hok' : (F a h).ok = true := by have := pick_leaf hp; subst this; exact hok
            refine (key hok').mono (fun e w' he => ?_)
            cases e with
            | returned v => exact ret out hp hok hle v w' he
            | panicked ch => obtain ⟨h, _⟩ := he; rw [hb] at h; cases h
            | outgrown => exact he.elim
      · exact (pick_fail hp).elim
    · exact (pick_fail hp).elim
  · exact (pick_fail hp).elim
end
end Go.Proofs.YtlflclfhldghbaaGreatDoor.Ls
end
section
namespace Go.Proofs.YtlflclfhldghbaaGreatDoor.Ls
open Go
section
variable {T : TypeId → VS} {cx : Cx T}
theorem opsDraw_lvl {pm : Bool} {P : List Nat} {all : List Oper} {b : Array Nat} {n0 : Nat} : ∀ (l : List Oper) (i : Nat) (bs : List Nat) (st : St T) (out : RgOut T), (opsDraw cx pm P all b n0 i l bs st).pick = some out → out.state.ok = true →
    st.ok = true ∧ out.state.gen = st.gen ∧ ∃ news, out.state.env = news ++ st.env
  | [], i, bs, st, out, h, hok => by have := pick_leaf h; subst this; exact ⟨hok, rfl, [], rfl⟩
  | o :: r, i, bs, st, out, h, hok => by
    simp only [opsDraw] at h
    obtain ⟨q, h1, h2⟩ := pick_bind _ _ _ h
    cases q with
    | done st' =>
      simp only at h2
      split at h2
      · obtain ⟨e1, e2, news, e3⟩ := opsDraw_lvl r _ _ _ out h2 hok
        have k1 := oneOp_ok h1 e1
        have k2 := oneOp_gen h1
        exact ⟨k1, e2.trans k2, news ++ takeE (st'.env.length - (looksL all o).length) st'.env, by rw [e3]; exact (List.append_assoc _ _ _).symm⟩
      · exact (pick_fail h2).elim
    | pan v st' => exact (pick_fail h2).elim
theorem drawB {ops : Array Oper} {st : St T} {out : RgOut T} (h : (opsDrawB cx ops st).pick = some out) : ∃ pm P, drawOk pm cx.quiet ops = true ∧ (opsDraw cx pm P ops.toList (Region.before ops) st.heap.length 0 ops.toList [] st).pick = some out := by
  unfold opsDrawB at h
  split at h
  · rename_i h1; exact ⟨_, _, h1, h⟩
  · split at h
    · rename_i h1; exact ⟨_, _, h1, h⟩
    · exact (pick_fail h).elim
theorem lastL_eq : ∀ (l : List Oper) {r : List Oper} {o : Oper}, lastL l = some (r, o) → l = r ++ [o]
  | [], r, o, h => by simp [lastL] at h
  | [x], r, o, h => by simp [lastL] at h; obtain ⟨rfl, rfl⟩ := h; rfl
  | x :: y :: t, r, o, h => by
    simp only [lastL] at h
    split at h
    · rename_i l o' h1
      simp at h; obtain ⟨rfl, rfl⟩ := h
      rw [lastL_eq (y :: t) h1]; rfl
    · cases h
theorem lastP_eq {ops : Array Oper} {l : List Oper} {o : Oper} (h : lastP ops = some (l, o)) : ops.toList = l ++ [o] ∧ o.guard = none ∧ allB (Region.before ⟨l ++ [nopOf o]⟩) l.length l.length = true := by
  unfold lastP at h
  split at h
  · rename_i l' o' h1
    split at h
    · rename_i c h2 h3
      split at h
      · split at h
        · rename_i h5
          simp at h; obtain ⟨rfl, rfl⟩ := h
          exact ⟨lastL_eq _ h1, h3, h5⟩
        · cases h
      · cases h
    · cases h
  · cases h
theorem drawA {ops : Array Oper} {st : St T} {out : RgOut T} (h : (opsDrawA cx ops st).pick = some out) : (opsDrawB cx ops st).pick = some out ∨ ∃ l o st1, ops.toList = l ++ [o] ∧ o.guard = none ∧ allB (Region.before ⟨l ++ [nopOf o]⟩) l.length l.length = true ∧
    (opsDrawB cx ⟨l ++ [nopOf o]⟩ st).pick = some (.done st1) ∧ (oneOp cx ops.toList o st1).pick = some out := by
  unfold opsDrawA at h
  split at h
  · exact .inl h
  · rename_i l o h1
    obtain ⟨e1, e2, e4⟩ := lastP_eq h1
    obtain ⟨q, h2, h3⟩ := pick_bind _ _ _ h
    cases q with
    | done st1 => exact .inr ⟨l, o, st1, e1, e2, e4, h2, h3⟩
    | pan v st1 => exact (pick_fail h3).elim
theorem rgDrawLvl : RgDrawLvl cx := fun ops st out h hok => by
  rcases drawA h with h | ⟨l, o, st1, _, _, _, h1, h2⟩
  · obtain ⟨pm, P, _, h1⟩ := drawB h
    exact opsDraw_lvl _ _ _ _ _ h1 hok
  · obtain ⟨pm, P, _, h3⟩ := drawB h1
    obtain ⟨e1, e2, n1, e3⟩ := opsDraw_lvl _ _ _ _ _ h3 (oneOp_ok h2 hok)
    obtain ⟨n2, e4⟩ := oneOp_env h2
    exact ⟨e1, (oneOp_gen h2).trans e2, n2 ++ n1, by rw [e4, show st1.env = n1 ++ st.env from e3]; simp⟩
theorem visV_VR {vis : Nat → Bool} {E E' : Emb} {N N' : Nat} (hv : ∀ id, vis id = true → okId N id → E' id = E id ∧ okId N' id) : ∀ (k : Nat) (v v' : Value), visV vis k v = true → VR E N v v' → VR E' N' v v'
  | 0, v, v', h, _ => by simp [visV] at h
  | k + 1, v, v', h, hr => by
    have ih := visV_VR hv k
    have all_ : ∀ (cs cs' : Array Value), cs.toList.all (visV vis k) = true → (∀ (i : Nat) (v v' : Value), cs[i]? = some v → cs'[i]? = some v' → VR E N v v') → ∀ (i : Nat) (v v' : Value), cs[i]? = some v → cs'[i]? = some v' → VR E' N' v v' := by
      intro cs cs' hc h2 i v v' h3 h4
      refine ih v v' ?_ (h2 i v v' h3 h4)
      exact List.all_eq_true.1 hc v (by have := Array.mem_of_getElem? h3; exact Array.mem_toList_iff.2 this)
    cases hr with
    | any => exact .any _
    | scal _ hs => exact .scal _ hs
    | ptr a hk =>
      obtain ⟨e, o⟩ := hv a.block h hk
      have := VR.ptr (E := E') (N := N') a o
      rwa [locA_eq e] at this
    | wsl id c hk hc hl =>
      obtain ⟨e, o⟩ := hv id h hk
      have := VR.wsl (E := E') (N := N') id c o (by rw [e]; exact hc) (by rw [e]; exact hl)
      rwa [e] at this
    | wsl0 id x hk hn =>
      obtain ⟨e, o⟩ := hv id h hk
      exact .wsl0 id x o (by rw [e]; exact hn)
    | gsl id o n c c' hk hn hc hN hl =>
      obtain ⟨e, ok⟩ := hv id h hk
      have := VR.gsl (E := E') (N := N') id o n c c' ok hn hc (by rw [e]; exact hN) (by rw [e]; exact hl)
      rwa [locA_eq (a := ⟨id, o, some 0⟩) e] at this
    | gsl0 id o x hk hN =>
      obtain ⟨e, ok⟩ := hv id h hk
      exact .gsl0 id o x ok (by rw [e]; exact hN)
    | fsl id o n c hk hn hc =>
      obtain ⟨e, ok⟩ := hv id h hk
      have := VR.fsl (E := E') (N := N') id o n c ok hn hc
      rwa [locA_eq (a := ⟨id, o, none⟩) e] at this
    | func fn fs fs' cs cs' h1 h2 h3 h4 =>
      simp only [visV, Bool.and_eq_true] at h
      exact .func fn fs fs' cs cs' h1 (all_ fs fs' h.1 h2) h3 (all_ cs cs' h.2 h4)
    | iface t v v' hr => exact .iface t v v' (ih v v' h hr)
    | agg cs cs' h1 h2 => exact .agg cs cs' h1 (all_ cs cs' h h2)
    | tup cs cs' h1 h2 => exact .tup cs cs' h1 (all_ cs cs' h h2)
    | skip => exact .skip
theorem visOb_ObR {vis : Nat → Bool} {E E' : Emb} {N N' id : Nat} {w : World} {o : Ob T} (hv : ∀ id, vis id = true → okId N id → E' id = E id ∧ okId N' id) (hid : E' id = E id) (h : visOb vis o = true) (hr : ObR E N id w o) : ObR E' N' id w o := by
  cases o with
  | dead => trivial
  | flat cs =>
    obtain ⟨c, e, h1, h2, h3⟩ := hr
    refine ⟨c, e, by rw [hid]; exact h1, by rw [hid]; exact h2, fun i v hi => ?_⟩
    obtain ⟨v', q1, q2⟩ := h3 i v hi
    exact ⟨v', by rw [hid]; exact q1, visV_VR hv 4 v v' (List.all_eq_true.1 h v (List.mem_of_getElem? hi)) q2⟩
  | row wr e xs =>
    obtain ⟨h1, h2, h3, h4, h5⟩ := hr
    exact ⟨h1, by rw [hid]; exact h2, by rw [hid]; exact h3, by rw [hid]; exact h4, by rw [hid]; exact h5⟩
theorem visH_get {vis : Nat → Bool} {D : List Nat} {L : Nat} : ∀ (H : List (Ob T)) (k : Nat), visH vis D L k H = true → ∀ j o, H[j]? = some o → (k + j ∈ D ∨ L ≤ k + j) → visOb vis o = true
  | [], k, h, j, o, hj, _ => by simp at hj
  | x :: r, k, h, j, o, hj, hd => by
    simp only [visH, Bool.and_eq_true] at h
    cases j with
    | zero =>
      simp at hj; subst hj
      have : (memN k D || Nat.ble L k) = true := by
        rcases hd with hd | hd
        · rw [memN_iff.2 (by simpa using hd)]; rfl
        · rw [Nat.ble_eq_true_of_le (by simpa using hd)]; simp
      rw [this] at h; exact h.1
    | succ j => exact visH_get r (k + 1) h.2 j o (by simpa using hj) (by rw [show k + 1 + j = k + (j + 1) by omega]; exact hd)
theorem envAt_get (env : List (Nat × Value)) (t : Nat) : ∀ (l : List Nat), getE (envAt env l) t = if t ∈ l then getE env t else undef
  | [] => by simp [envAt, getE]
  | u :: r => by
    simp only [envAt, getE_cons]
    by_cases h : u = t
    · subst h; simp
    · rw [if_neg h, envAt_get env t r]
      have : t ≠ u := fun e => h e.symm
      simp [this]
theorem envAt_len (env : List (Nat × Value)) : ∀ (l : List Nat), (envAt env l).length = l.length
  | [] => rfl
  | _ :: r => by simp [envAt, envAt_len env r]
theorem takeE_append (l m : List (Nat × Value)) : takeE ((l ++ m).length - m.length) (l ++ m) = l := by
  have : (l ++ m).length - m.length = l.length := by simp
  rw [this]
  induction l with
  | nil => cases m <;> rfl
  | cons x r ih => simp only [List.cons_append, List.length_cons, takeE]; rw [ih (by simp)]
theorem visE_get {vis : Nat → Bool} : ∀ (l m : List (Nat × Value)), visE vis l.length (l ++ m) = true → ∀ p ∈ l, visV vis 4 p.2 = true
  | [], m, _, p, hp => by cases hp
  | x :: r, m, h, p, hp => by
    simp only [List.cons_append, List.length_cons, visE, Bool.and_eq_true] at h
    rcases List.mem_cons.1 hp with rfl | hp
    · exact h.1
    · exact visE_get r m h.2 p hp
theorem unmask_get {D : List Nat} : ∀ (V H : List (Ob T)) (k j : Nat), H.length ≤ V.length → (unmask D k H V)[j]? = if j < H.length ∧ k + j ∉ D then H[j]? else V[j]?
  | V, [], k, j, h => by simp [unmask]
  | [], o :: r, k, j, h => by simp at h
  | v :: V, o :: r, k, j, h => by
    cases j with
    | zero =>
      simp only [unmask]
      cases hm : memN k D with
      | true => have := memN_iff.1 hm; simp [this]
      | false => have := memN_false hm; simp [this]
    | succ j =>
      simp only [unmask, List.getElem?_cons_succ]
      rw [unmask_get V r (k + 1) j (by simpa using h), show k + 1 + j = k + (j + 1) by omega]
      simp only [List.length_cons, Nat.add_lt_add_iff_right]
theorem unmask_len {D : List Nat} : ∀ (V H : List (Ob T)) (k : Nat), H.length ≤ V.length → (unmask D k H V).length = V.length
  | V, [], k, h => by simp [unmask]
  | [], o :: r, k, h => by simp at h
  | v :: V, o :: r, k, h => by simp only [unmask, List.length_cons]; rw [unmask_len V r (k + 1) (by simpa using h)]
theorem maskH_len {b : Array Nat} {i n0 : Nat} {neu : Bool} : ∀ (H : List (Ob T)) (k : Nat) (bs : List Nat), (maskH b i n0 neu k bs H).length = H.length
  | [], k, bs => by simp [maskH]
  | o :: r, k, bs => by
    unfold maskH
    split
    · simp [maskH_len r]
    · split
      · simp [maskH_len r]
      · split <;> simp [maskH_len r]
theorem maskP_len {pw : Bool} {P : List Nat} : ∀ (H : List (Ob T)) (k : Nat), (maskP pw P k H).length = H.length
  | [], k => by simp [maskP]
  | o :: r, k => by simp [maskP, maskP_len r]
theorem maskP_get {pw : Bool} {P : List Nat} : ∀ (H : List (Ob T)) (k j : Nat) (o : Ob T), (maskP pw P k H)[j]? = some o → o = .dead ∨ (H[j]? = some o ∧ memN (k + j) P = pw)
  | [], k, j, o, h => by simp [maskP] at h
  | x :: r, k, 0, o, h => by
    simp only [maskP, List.getElem?_cons_zero, Option.some.injEq] at h
    cases pw <;> cases hm : memN k P <;> simp only [hm] at h <;> first | exact .inl h.symm | exact .inr ⟨congrArg some h, by simpa using hm⟩
  | x :: r, k, j + 1, o, h => by
    simp only [maskP, List.getElem?_cons_succ] at h
    rcases maskP_get r (k + 1) j o h with h1 | ⟨h1, h2⟩
    · exact .inl h1
    · exact .inr ⟨by simpa using h1, by rw [show k + (j + 1) = k + 1 + j by omega]; exact h2⟩
theorem allIn_get {pw : Bool} {P : List Nat} : ∀ (D : List Nat), allIn pw P D = true → ∀ x ∈ D, memN x P = pw
  | [], _, x, hx => by cases hx
  | i :: r, h, x, hx => by
    simp only [allIn, Bool.and_eq_true] at h
    rcases List.mem_cons.1 hx with rfl | hx
    · cases pw <;> simpa using h.1
    · exact allIn_get r h.2 x hx
theorem maskH_get {b : Array Nat} {i n0 : Nat} : ∀ (H : List (Ob T)) (k : Nat) (bs : List Nat) (j : Nat) (o : Ob T), (maskH b i n0 false k bs H)[j]? = some o → o = .dead ∨ (H[j]? = some o ∧ (k + j < n0 ∨ ∃ m, bs[k + j - max n0 k]? = some m ∧ n0 ≤ k + j ∧ ordB b i m = true))
  | [], k, bs, j, o, h => by simp [maskH] at h
  | x :: r, k, bs, j, o, h => by
    unfold maskH at h
    simp only at h
    split at h
    · rename_i hk
      have hk : k < n0 := by simp only [Nat.blt] at hk; have := Nat.le_of_ble_eq_true hk; omega
      cases j with
      | zero => simp at h; subst h; exact .inr ⟨rfl, .inl (by omega)⟩
      | succ j =>
        rcases maskH_get r (k + 1) bs j o (by simpa using h) with rfl | ⟨h1, h2⟩
        · exact .inl rfl
        · refine .inr ⟨by simpa using h1, ?_⟩
          rw [show k + 1 + j = k + (j + 1) by omega] at h2
          rcases h2 with h2 | ⟨m, h2, h3, h4⟩
          · exact .inl h2
          · exact .inr ⟨m, by rw [show max n0 k = max n0 (k + 1) by omega]; exact h2, h3, h4⟩
    · rename_i hk
      have hk : n0 ≤ k := by
        apply Nat.le_of_not_lt; intro hlt
        have : Nat.blt k n0 = true := by simp only [Nat.blt]; exact Nat.ble_eq_true_of_le hlt
        rw [this] at hk; cases hk
      split at h
      · rename_i m bs'
        cases j with
        | zero =>
          simp at h
          split at h
          · rename_i ho; subst h; exact .inr ⟨rfl, .inr ⟨m, by rw [show k + 0 - max n0 k = 0 by omega]; rfl, by omega, ho⟩⟩
          · exact .inl h.symm
        | succ j =>
          rcases maskH_get r (k + 1) bs' j o (by simpa using h) with rfl | ⟨h1, h2⟩
          · exact .inl rfl
          · refine .inr ⟨by simpa using h1, ?_⟩
            rw [show k + 1 + j = k + (j + 1) by omega] at h2
            rcases h2 with h2 | ⟨m', h2, h3, h4⟩
            · omega
            · refine .inr ⟨m', ?_, h3, h4⟩
              rw [show k + (j + 1) - max n0 k = (k + (j + 1) - max n0 (k + 1)) + 1 by omega]
              simpa using h2
      · cases j with
        | zero => simp at h; exact .inl h.symm
        | succ j =>
          rcases maskH_get r (k + 1) [] j o (by simpa using h) with rfl | ⟨h1, h2⟩
          · exact .inl rfl
          · rcases h2 with h2 | ⟨m', h2, h3, h4⟩
            · omega
            · simp at h2
end
end Go.Proofs.YtlflclfhldghbaaGreatDoor.Ls
end
section
namespace Go.Proofs.YtlflclfhldghbaaGreatDoor.Ls
open Go
section
variable {T : TypeId → VS} {cx : Cx T}
theorem wpOp_dst {P : Program} {ops : Array Oper} {Q : Exit → Act → World → Prop} {i : Nat} {o : Oper} (hi : ops[i]? = some o) {K : Act → World → Prop} {a : Act} {w : World} (h : wpOp P ops Q i K a w) :
    wpOp P ops Q i (fun a' w' => K a' w' ∧ ∀ t, o.dst ≠ some t → a'.tmps.getD t undef = a.tmps.getD t undef) a w := by
  have put : ∀ (ds : List Deferred) (v : Value) (t : Nat), o.dst ≠ some t → (({ a with defers := ds } : Act).put o.dst v).tmps.getD t undef = a.tmps.getD t undef := by
    intro ds v t ht
    cases hd : o.dst with
    | none => rfl
    | some u =>
      have : u ≠ t := fun e => ht (by rw [hd, e])
      simp [Act.put, Array.getD_eq_getD_getElem?, Array.getElem?_setIfInBounds_ne this]
  have put' : ∀ (v : Value) (t : Nat), o.dst ≠ some t → (a.put o.dst v).tmps.getD t undef = a.tmps.getD t undef := fun v t ht => put a.defers v t ht
  unfold wpOp at h ⊢
  simp only [hi] at h ⊢
  split
  · rename_i hw
    rw [if_pos hw] at h
    refine h.imp (fun h => ?_) (fun h => h)
    unfold Oper.wp at h ⊢
    generalize (execOp a.eval o).run P w = r at h ⊢
    cases r with
    | ok n w' =>
      cases n with
      | value v => exact ⟨h, put' v⟩
      | skip => exact ⟨h, put' undef⟩
      | defer d => exact ⟨h, put _ undef⟩
      | enter f args => exact Calls.mono h (fun e w'' he => by cases e <;> first | exact ⟨he, put' _⟩ | exact he)
      | row row args => exact Rows.mono h (fun v w'' he => ⟨he, put' v⟩)
      | _ => exact h
    | halt x w' => cases x <;> exact h
  · rename_i hw
    rw [if_neg hw] at h
    exact ⟨h, put' undef⟩
theorem splitOn_getE {st st' : St T} {x : Operand} {b : Bool} (h : (splitOn cx st x).pick = some (b, st')) (t : Nat) : getE st'.env t = getE st.env t := by
  unfold splitOn at h
  split at h
  · rename_i c hc
    have same : (c, st) = (b, st') → getE st'.env t = getE st.env t := by
      intro e; simp at e; obtain ⟨rfl, rfl⟩ := e; rfl
    split at h
    · rename_i u
      have learned : getE (learn st u c).env t = getE st.env t := by
        simp only [learn, getE_cons]
        split
        · rename_i e; subst e; exact hc.symm
        · rfl
      split at h
      · split at h
        · exact same (pick_leaf h)
        · exact same (pick_leaf h)
      · cases c with
        | true => have := pick_leaf h; simp at this; obtain ⟨rfl, rfl⟩ := this; exact learned
        | false => have := pick_leaf h; simp at this; obtain ⟨rfl, rfl⟩ := this; exact learned
    · split at h
      · exact same (pick_leaf h)
      · exact same (pick_leaf h)
  · exact (pick_fail h).elim
theorem put_getE {st st' : St T} {d : Option Tmp} {v : Value} (h : st.put cx d v = some st') {t : Nat} (ht : d ≠ some t) : getE st'.env t = getE st.env t := by
  rcases (put_eq h).2.2.2.2 with ⟨_, e⟩ | ⟨u, hu, _, e⟩
  · rw [e]
  · rw [e, getE_cons, if_neg]
    intro e; subst e; exact ht hu
theorem doneOp_getE {st : St T} {o : Oper} {k : Bool} {st' : St T} (hp : ((opL cx st o).bind (doneOp cx o k)).pick = some (.done st')) {t : Nat} (ht : o.dst ≠ some t) : getE st'.env t = getE st.env t := by
  obtain ⟨q, h1, h2⟩ := pick_bind _ _ _ hp
  cases q with
  | val v st1 =>
    simp only [doneOp] at h2
    split at h2
    · rename_i st2 hle hput
      have := pick_leaf h2
      cases this
      have e0 : st1.env = st.env := opL_env h1
      rw [(note_eq st2 o.dst k).2.1, put_getE hput ht, e0]
    · exact (pick_fail h2).elim
  | pan v st1 =>
    simp only [doneOp] at h2
    split at h2
    · have := pick_leaf h2; cases this
    · exact (pick_fail h2).elim
theorem oneOp_getE {st : St T} {o : Oper} {ops : List Oper} {st' : St T} (hp : (oneOp cx ops o st).pick = some (.done st')) {t : Nat} (ht : o.dst ≠ some t) : getE st'.env t = getE st.env t := by
  unfold oneOp at hp
  split at hp
  · exact doneOp_getE hp ht
  · split at hp
    · exact (pick_fail hp).elim
    · split at hp
      · exact (pick_fail hp).elim
      · split at hp
        · split at hp
          · rename_i st2 hput
            have := pick_leaf hp; cases this
            exact put_getE hput ht
          · exact (pick_fail hp).elim
        obtain ⟨⟨b, st1⟩, h1, h2⟩ := pick_bind _ _ _ hp
        have e := splitOn_getE h1 t
        simp only at h2
        split at h2
        · rw [doneOp_getE h2 ht, e]
        · split at h2
          · rename_i st2 hput
            have := pick_leaf h2; cases this
            rw [put_getE hput ht, e]
          · exact (pick_fail h2).elim
theorem fold_bit (acc : Array Nat) (j : Nat) : ∀ (l : List Edge) (s : Nat), (l.foldl (fun s e => if Region.binds .any e then s ||| 2 ^ e.on ||| acc.getD e.on 0 else s) s).testBit j = true →
    s.testBit j = true ∨ ∃ e ∈ l, Region.binds .any e = true ∧ (e.on = j ∨ (acc.getD e.on 0).testBit j = true)
  | [], s, h => .inl h
  | e :: r, s, h => by
    simp only [List.foldl_cons] at h
    rcases fold_bit acc j r _ h with h1 | ⟨e', he, hb, hx⟩
    · split at h1
      · rename_i hbd
        rw [Nat.testBit_or, Nat.testBit_or] at h1
        simp only [Bool.or_eq_true] at h1
        rcases h1 with (h1 | h1) | h1
        · exact .inl h1
        · rw [Nat.testBit_two_pow] at h1
          exact .inr ⟨e, by simp, hbd, .inl (by simpa using h1)⟩
        · exact .inr ⟨e, by simp, hbd, .inr h1⟩
      · exact .inl h1
    · exact .inr ⟨e', by simp [he], hb, hx⟩
def befF (acc : Array Nat) (o : Oper) : Array Nat :=
  acc.push (o.after.foldl (fun s e => if Region.binds .any e then s ||| 2 ^ e.on ||| acc.getD e.on 0 else s) 0)
theorem before_eq (ops : Array Oper) : Region.before ops = ops.toList.foldl befF #[] := by
  unfold Region.before
  rw [← Array.foldl_toList]
  rfl
theorem bef_spec (all : List Oper) : ∀ (l : List Oper) (acc : Array Nat), all.drop acc.size = l →
    (∀ i j, (acc.getD i 0).testBit j = true → ∃ o e, all[i]? = some o ∧ e ∈ o.after.toList ∧ Region.binds .any e = true ∧ (e.on = j ∨ (e.on < i ∧ (acc.getD e.on 0).testBit j = true))) →
    ∀ i j, ((l.foldl befF acc).getD i 0).testBit j = true → ∃ o e, all[i]? = some o ∧ e ∈ o.after.toList ∧ Region.binds .any e = true ∧ (e.on = j ∨ (e.on < i ∧ ((l.foldl befF acc).getD e.on 0).testBit j = true))
  | [], acc, hd, h => h
  | o :: r, acc, hd, h => by
    have ho : all[acc.size]? = some o := by
      have := congrArg (fun l => l[0]?) hd
      simpa using this
    have hgd : ∀ (x : Nat) (k : Nat), (acc.push x).getD k 0 = if k = acc.size then x else acc.getD k 0 := by
      intro x k
      simp only [Array.getD_eq_getD_getElem?, Array.getElem?_push]
      split
      · rfl
      · rfl
    simp only [List.foldl_cons]
    refine bef_spec all r (befF acc o) (by
      simp only [befF, Array.size_push]
      rw [← List.drop_drop, hd]; rfl) ?_
    intro i j hij
    simp only [befF] at hij ⊢
    rw [hgd] at hij
    have low : ∀ k, (acc.getD k 0).testBit j = true → k < acc.size := by
      intro k hk
      apply Nat.lt_of_not_le; intro hge
      have : acc.getD k 0 = 0 := by simp [Array.getD_eq_getD_getElem?, Array.getElem?_eq_none hge]
      rw [this] at hk; simp at hk
    split at hij
    · rename_i e; subst e
      rw [← Array.foldl_toList] at hij
      rcases fold_bit acc j _ _ hij with h1 | ⟨e, he, hb, hx⟩
      · simp at h1
      · refine ⟨o, e, ho, he, hb, hx.imp (fun h => h) (fun hx => ?_)⟩
        have hl := low _ hx
        exact ⟨hl, by rw [hgd, if_neg (by omega)]; exact hx⟩
    · obtain ⟨o', e, h1, h2, h3, h4⟩ := h i j hij
      refine ⟨o', e, h1, h2, h3, h4.imp (fun h => h) (fun ⟨h5, h6⟩ => ⟨h5, ?_⟩)⟩
      rw [hgd, if_neg (by have := low _ h6; omega)]; exact h6
theorem before_in {ops : Array Oper} {S : Nat → Prop} (hS : ∀ i o, S i → ops[i]? = some o → ∀ e ∈ o.after.toList, Region.binds .any e = true → S e.on) : ∀ (i j : Nat), (∀ o, ops[i]? = some o → ∀ e ∈ o.after.toList, Region.binds .any e = true → S e.on) → ordB (Region.before ops) i j = true → S j := by
  intro i
  induction i using Nat.strongRecOn with
  | _ i ih =>
    intro j hi hb
    unfold ordB at hb
    rw [before_eq] at hb
    obtain ⟨o, e, h1, h2, h3, h4⟩ := bef_spec ops.toList ops.toList #[] rfl (fun i j h => by simp at h) i j hb
    have h1 : ops[i]? = some o := by simpa using h1
    have hs := hi o h1 e h2 h3
    rcases h4 with rfl | ⟨h5, h6⟩
    · exact hs
    · refine ih e.on h5 j (fun o' ho' e' he' hb' => hS e.on o' hs ho' e' he' hb') ?_
      unfold ordB
      rw [before_eq]; exact h6
end
end Go.Proofs.YtlflclfhldghbaaGreatDoor.Ls
end
section
namespace Go.Proofs.YtlflclfhldghbaaGreatDoor.Ls
open Go
section
variable {T : TypeId → VS} {cx : Cx T} {pm : Bool} {P : List Nat}
structure DrawStep (cx : Cx T) (pm : Bool) (P : List Nat) (all : List Oper) (b : Array Nat) (n0 i : Nat) (o : Oper) (st : St T) (bs : List Nat) (st' st1 : St T) (bs1 : List Nat) : Prop where
  run : (oneOp cx all o { st with env := envAt st.env (looksL all o), heap := maskP (isPw (kindOp pm cx.quiet o.op)) P 0 (maskH b i n0 (isNeu (kindOp pm cx.quiet o.op)) 0 bs st.heap), dirty := [] }).pick = some (.done st')
  touch : mayTouch (kindOp pm cx.quiet o.op) st'.dirty = true
  inP : allIn (isPw (kindOp pm cx.quiet o.op)) P st'.dirty = true
  len : st.heap.length ≤ st'.heap.length
  le : st'.heap.length ≤ GB
  visD : st'.dirty.all (visId b i n0 st.heap.length bs) = true
  visH : visH (visId b i n0 st.heap.length bs) st'.dirty st.heap.length 0 st'.heap = true
  visE : visE (visId b i n0 st.heap.length bs) (st'.env.length - (looksL all o).length) st'.env = true
  bs1 : bs1 = bs ++ repN i (st'.heap.length - st.heap.length)
  st1 : st1 = { st' with env := takeE (st'.env.length - (looksL all o).length) st'.env ++ st.env, heap := unmask st'.dirty 0 st.heap st'.heap, dirty := unionN st'.dirty st.dirty }
theorem run_exists {all : List Oper} {b : Array Nat} {n0 : Nat} : ∀ (l : List Oper) (i : Nat) (bs : List Nat) (st : St T) (out : RgOut T), (opsDraw cx pm P all b n0 i l bs st).pick = some out →
    ∃ (s s' : Nat → St T) (m : Nat → List Nat), s i = st ∧ m i = bs ∧ out = .done (s (i + l.length)) ∧ ∀ k o, l[k]? = some o → DrawStep cx pm P all b n0 (i + k) o (s (i + k)) (m (i + k)) (s' (i + k)) (s (i + k + 1)) (m (i + k + 1))
  | [], i, bs, st, out, h => by
    have := pick_leaf h; subst this
    exact ⟨fun _ => st, fun _ => st, fun _ => bs, rfl, rfl, rfl, fun k o h => by simp at h⟩
  | o :: r, i, bs, st, out, h => by
    simp only [opsDraw] at h
    obtain ⟨q, h1, h2⟩ := pick_bind _ _ _ h
    cases q with
    | pan v st' => exact (pick_fail h2).elim
    | done st' =>
      simp only at h2
      split at h2
      · rename_i hc
        simp only [Bool.and_eq_true] at hc
        obtain ⟨⟨⟨c1, c0⟩, c2, c3, c6⟩, c4, c5⟩ := hc
        obtain ⟨s, s', m, e1, e2, e3, e4⟩ := run_exists r (i + 1) _ _ out h2
        refine ⟨fun k => if k = i then st else s k, fun k => if k = i then st' else s' k, fun k => if k = i then bs else m k, if_pos rfl, if_pos rfl, ?_, fun k o' hk => ?_⟩
        · rw [e3]
          simp only [List.length_cons]
          rw [if_neg (by omega), show i + (r.length + 1) = i + 1 + r.length by omega]
        · cases k with
          | zero =>
            simp at hk; subst hk
            have e : ¬ i + 1 = i := by omega
            simp only [Nat.add_zero, if_true, if_neg e]
            exact ⟨h1, c1, c0, Nat.le_of_ble_eq_true c2, Nat.le_of_ble_eq_true c3, c6, c4, c5, e2, e1⟩
          | succ k =>
            have := e4 k o' (by simpa using hk)
            rw [show i + 1 + k = i + (k + 1) by omega] at this
            have f1 : ¬ i + (k + 1) = i := by omega
            have f2 : ¬ i + (k + 1) + 1 = i := by omega
            simp only [if_neg f1, if_neg f2]
            exact this
      · exact (pick_fail h2).elim
theorem DrawStep.len1 {all : List Oper} {b : Array Nat} {n0 i : Nat} {o : Oper} {st st' st1 : St T} {bs bs1 : List Nat} (h : DrawStep cx pm P all b n0 i o st bs st' st1 bs1) : st1.heap.length = st'.heap.length := by
  rw [h.st1]; exact unmask_len _ _ _ h.len
theorem DrawStep.heap1 {all : List Oper} {b : Array Nat} {n0 i : Nat} {o : Oper} {st st' st1 : St T} {bs bs1 : List Nat} (h : DrawStep cx pm P all b n0 i o st bs st' st1 bs1) (k : Nat) :
    st1.heap[k]? = if k < st.heap.length ∧ k ∉ st'.dirty then st.heap[k]? else st'.heap[k]? := by
  rw [h.st1]
  have := unmask_get (D := st'.dirty) st'.heap st.heap 0 k h.len
  simpa using this
theorem DrawStep.env1 {all : List Oper} {b : Array Nat} {n0 i : Nat} {o : Oper} {st st' st1 : St T} {bs bs1 : List Nat} (h : DrawStep cx pm P all b n0 i o st bs st' st1 bs1) {t : Nat} (ht : o.dst ≠ some t) :
    getE st1.env t = getE st.env t ∨ getE st1.env t = undef := by
  obtain ⟨news, hn⟩ := oneOp_env h.run
  have hn : st'.env = news ++ envAt st.env (looksL all o) := hn
  have htk : takeE (st'.env.length - (looksL all o).length) st'.env = news := by
    have := takeE_append news (envAt st.env (looksL all o))
    rw [envAt_len] at this
    rw [hn]; exact this
  have hg : getE (news ++ envAt st.env (looksL all o)) t = getE (envAt st.env (looksL all o)) t := by
    rw [← hn]; exact oneOp_getE h.run ht
  have e1 : getE st1.env t = getE (news ++ st.env) t := by rw [h.st1]; show getE (takeE _ _ ++ st.env) t = _; rw [htk]
  rw [e1]
  by_cases hk : ∃ p ∈ news, p.1 = t
  · have : ∀ (l m m' : List (Nat × Value)), (∃ p ∈ l, p.1 = t) → getE (l ++ m) t = getE (l ++ m') t := by
      intro l m m'
      induction l with
      | nil => rintro ⟨p, hp, _⟩; cases hp
      | cons x r ih =>
        obtain ⟨u, v⟩ := x
        rintro ⟨p, hp, rfl⟩
        simp only [List.cons_append, getE_cons]
        by_cases hu : u = p.1
        · rw [if_pos hu, if_pos hu]
        · rw [if_neg hu, if_neg hu]
          rcases List.mem_cons.1 hp with rfl | hp
          · exact absurd rfl hu
          · exact ih ⟨p, hp, rfl⟩
    rw [this news st.env (envAt st.env (looksL all o)) hk, hg, envAt_get]
    split
    · exact .inl rfl
    · exact .inr rfl
  · refine .inl (getE_append t news st.env (fun p hp e => hk ⟨p, hp, e⟩))
end
end Go.Proofs.YtlflclfhldghbaaGreatDoor.Ls
end
section
namespace Go.Proofs.YtlflclfhldghbaaGreatDoor.Ls
open Go
section
variable {T : TypeId → VS} {cx : Cx T} {pm : Bool} {P : List Nat}
structure Run (cx : Cx T) (pm : Bool) (P : List Nat) (ops : Array Oper) (st : St T) (s s' : Nat → St T) (m : Nat → List Nat) : Prop where
  s0 : s 0 = st
  m0 : m 0 = []
  step : ∀ k o, ops[k]? = some o → DrawStep cx pm P ops.toList (Region.before ops) st.heap.length k o (s k) (m k) (s' k) (s (k + 1)) (m (k + 1))
variable {ops : Array Oper} {st : St T} {s s' : Nat → St T} {m : Nat → List Nat}
theorem Run.step' (h : Run cx pm P ops st s s' m) {k : Nat} (hk : k < ops.size) : DrawStep cx pm P ops.toList (Region.before ops) st.heap.length k ops[k] (s k) (m k) (s' k) (s (k + 1)) (m (k + 1)) :=
  h.step k _ (by simp [hk])
theorem Run.lenS (h : Run cx pm P ops st s s' m) {k : Nat} (hk : k < ops.size) : (s k).heap.length ≤ (s (k + 1)).heap.length := by
  have := (h.step' hk).len1; have := (h.step' hk).len; omega
theorem Run.mono (h : Run cx pm P ops st s s' m) {p q : Nat} (hpq : p ≤ q) (hq : q ≤ ops.size) : (s p).heap.length ≤ (s q).heap.length := by
  induction q with
  | zero => have : p = 0 := by omega
            subst this; exact Nat.le_refl _
  | succ q ih =>
    by_cases e : p = q + 1
    · subst e; exact Nat.le_refl _
    · exact Nat.le_trans (ih (by omega) (by omega)) (h.lenS (by omega))
theorem Run.n0 (h : Run cx pm P ops st s s' m) {q : Nat} (hq : q ≤ ops.size) : st.heap.length ≤ (s q).heap.length := by
  have := h.mono (Nat.zero_le q) hq
  rw [h.s0] at this; exact this
theorem Run.leGB (h : Run cx pm P ops st s s' m) (h0 : st.heap.length ≤ GB) {q : Nat} (hq : q ≤ ops.size) : (s q).heap.length ≤ GB := by
  cases q with
  | zero => rw [h.s0]; exact h0
  | succ q => rw [(h.step' (k := q) (by omega)).len1]; exact (h.step' (k := q) (by omega)).le
theorem repN_len (i : Nat) : ∀ n, (repN i n).length = n
  | 0 => rfl
  | n + 1 => by simp [repN, repN_len i n]
theorem repN_get (i : Nat) : ∀ (n k j : Nat), (repN i n)[k]? = some j → j = i
  | 0, k, j, h => by simp [repN] at h
  | n + 1, 0, j, h => by simp [repN] at h; exact h.symm
  | n + 1, k + 1, j, h => repN_get i n k j (by simpa [repN] using h)
theorem Run.mlen (h : Run cx pm P ops st s s' m) : ∀ {q : Nat}, q ≤ ops.size → (m q).length + st.heap.length = (s q).heap.length
  | 0, _ => by rw [h.m0, h.s0]; simp
  | q + 1, hq => by
    have ih := h.mlen (q := q) (by omega)
    have d := h.step' (k := q) (by omega)
    rw [d.bs1, List.length_append, repN_len, d.len1]
    have := d.len; omega
theorem Run.maker (h : Run cx pm P ops st s s' m) : ∀ {q : Nat}, q ≤ ops.size → ∀ {k j : Nat}, (m q)[k]? = some j → j < q ∧ (s j).heap.length ≤ st.heap.length + k ∧ st.heap.length + k < (s (j + 1)).heap.length
  | 0, _, k, j, hk => by rw [h.m0] at hk; simp at hk
  | q + 1, hq, k, j, hk => by
    have d := h.step' (k := q) (by omega)
    have hl := h.mlen (q := q) (by omega)
    have hl1 := h.mlen (q := q + 1) hq
    by_cases hlt : k < (m q).length
    · rw [d.bs1, List.getElem?_append_left hlt] at hk
      obtain ⟨h1, h2⟩ := h.maker (q := q) (by omega) hk
      exact ⟨by omega, h2⟩
    · have hk1 : k < (m (q + 1)).length := (List.getElem?_eq_some_iff.1 hk).1
      rw [d.bs1, List.getElem?_append_right (by omega)] at hk
      have := repN_get _ _ _ _ hk; subst this
      exact ⟨by omega, by omega, by omega⟩
theorem Run.maker_uniq (h : Run cx pm P ops st s s' m) {i j id : Nat} (hi : i < ops.size) (hj : j < ops.size) (h1 : (s i).heap.length ≤ id) (h2 : id < (s (i + 1)).heap.length) (h3 : (s j).heap.length ≤ id) (h4 : id < (s (j + 1)).heap.length) : i = j := by
  apply Nat.le_antisymm
  · apply Nat.le_of_not_lt; intro hlt
    have := h.mono (p := j + 1) (q := i) (by omega) (by omega); omega
  · apply Nat.le_of_not_lt; intro hlt
    have := h.mono (p := i + 1) (q := j) (by omega) (by omega); omega
theorem Run.same (h : Run cx pm P ops st s s' m) {k p : Nat} (hk : k < (s p).heap.length) : ∀ {q : Nat}, p ≤ q → q ≤ ops.size → (∀ i, p ≤ i → i < q → k ∉ (s' i).dirty) → (s q).heap[k]? = (s p).heap[k]? := by
  intro q
  induction q with
  | zero => intro hp _ _; have : p = 0 := by omega
            subst this; rfl
  | succ q ih =>
    intro hp hq hd
    by_cases e : p = q + 1
    · subst e; rfl
    · have d := h.step' (k := q) (by omega)
      have hlt : k < (s q).heap.length := Nat.lt_of_lt_of_le hk (h.mono (by omega) (by omega))
      rw [d.heap1, if_pos ⟨hlt, hd q (by omega) (by omega)⟩]
      exact ih (by omega) (by omega) (fun i h1 h2 => hd i h1 (by omega))
theorem Run.vis (h : Run cx pm P ops st s s' m) {i id : Nat} (hi : i < ops.size) (hv : visId (Region.before ops) i st.heap.length (s i).heap.length (m i) id = true) :
    id < st.heap.length ∨ (s i).heap.length ≤ id ∨ ∃ j, j < i ∧ (s j).heap.length ≤ id ∧ id < (s (j + 1)).heap.length ∧ ordB (Region.before ops) i j = true := by
  unfold visId at hv
  simp only [Bool.or_eq_true] at hv
  rcases hv with hv | hv | hv
  · left; simp only [Nat.blt] at hv; exact Nat.le_of_ble_eq_true hv
  · right; left; exact Nat.le_of_ble_eq_true hv
  · by_cases hlt : id < st.heap.length
    · exact .inl hlt
    · split at hv
      · rename_i j hj
        obtain ⟨h1, h2, h3⟩ := h.maker (q := i) (by omega) hj
        exact .inr (.inr ⟨j, h1, by omega, by omega, hv⟩)
      · cases hv
theorem Run.mask (h : Run cx pm P ops st s s' m) {i k : Nat} {o : Ob T} {neu : Bool} (hi : i < ops.size) (hk : (maskH (Region.before ops) i st.heap.length neu 0 (m i) (s i).heap)[k]? = some o) :
    o = .dead ∨ (neu = false ∧ (s i).heap[k]? = some o ∧ (k < st.heap.length ∨ ∃ j, j < i ∧ (s j).heap.length ≤ k ∧ k < (s (j + 1)).heap.length ∧ ordB (Region.before ops) i j = true)) := by
  cases neu with
  | true =>
    left
    have : ∀ (H : List (Ob T)) (k' : Nat) (bs : List Nat) (j : Nat) (o : Ob T), (maskH (Region.before ops) i st.heap.length true k' bs H)[j]? = some o → o = .dead := by
      intro H
      induction H with
      | nil => intro k' bs j o h; simp [maskH] at h
      | cons x r ih =>
        intro k' bs j o h
        simp only [maskH] at h
        cases j with
        | zero => simp at h; exact h.symm
        | succ j => exact ih _ _ j o (by simpa using h)
    exact this _ _ _ _ _ hk
  | false =>
    rcases maskH_get _ _ _ _ _ hk with rfl | ⟨h1, h2⟩
    · exact .inl rfl
    · refine .inr ⟨rfl, h1, ?_⟩
      rw [Nat.zero_add] at h2
      rcases h2 with h2 | ⟨j, h2, h3, h4⟩
      · exact .inl h2
      · obtain ⟨q1, q2, q3⟩ := h.maker (q := i) (by omega) h2
        have e : st.heap.length + (k - max st.heap.length 0) = k := by omega
        rw [e] at q2 q3
        exact .inr ⟨j, q1, q2, q3, h4⟩
end
end Go.Proofs.YtlflclfhldghbaaGreatDoor.Ls
end
section
namespace Go.Proofs.YtlflclfhldghbaaGreatDoor.Ls
open Go
section
theorem edgesOk_get : ∀ (l : List Oper) (i : Nat), edgesOk i l = true → ∀ j o, l[j]? = some o → ∀ e ∈ o.after.toList, Region.binds .any e = true → e.on < i + j
  | [], i, h, j, o, hj, _, _, _ => by simp at hj
  | x :: r, i, h, j, o, hj, e, he, hb => by
    simp only [edgesOk, Bool.and_eq_true] at h
    cases j with
    | zero =>
      simp at hj; subst hj
      have := List.all_eq_true.1 h.1 e he
      rw [hb] at this
      simp only [Bool.not_true, Bool.false_or, Nat.blt] at this
      exact Nat.le_of_ble_eq_true this
    | succ j =>
      have := edgesOk_get r (i + 1) h.2 j o (by simpa using hj) e he hb
      omega
theorem apartAll_get {pm : Bool} {q : FuncId → Bool} {b : Array Nat} {i : Nat} {o : Oper} : ∀ (l : List Oper) (j : Nat), apartAll pm q b i o j l = true → ∀ k p, l[k]? = some p → ordB b (j + k) i = true ∨ kdApart (kindOp pm q o.op) (kindOp pm q p.op) = true
  | [], j, h, k, p, hk => by simp at hk
  | x :: r, j, h, k, p, hk => by
    simp only [apartAll, Bool.and_eq_true, Bool.or_eq_true] at h
    cases k with
    | zero => simp at hk; subst hk; exact h.1
    | succ k =>
      have := apartAll_get r (j + 1) h.2 k p (by simpa using hk)
      rw [show j + 1 + k = j + (k + 1) by omega] at this; exact this
theorem drawOkFrom_get {pm : Bool} {q : FuncId → Bool} {b : Array Nat} : ∀ (l : List Oper) (i : Nat), drawOkFrom pm q b i l = true → ∀ x y p r, x < y → l[x]? = some p → l[y]? = some r → ordB b (i + y) (i + x) = true ∨ kdApart (kindOp pm q p.op) (kindOp pm q r.op) = true
  | [], i, h, x, y, p, r, _, hx, _ => by simp at hx
  | o :: l, i, h, x, y, p, r, hxy, hx, hy => by
    simp only [drawOkFrom, Bool.and_eq_true] at h
    cases y with
    | zero => omega
    | succ y =>
      cases x with
      | zero =>
        simp at hx; subst hx
        have := apartAll_get l (i + 1) h.1 y r (by simpa using hy)
        rw [show i + 1 + y = i + (y + 1) by omega] at this; exact this
      | succ x =>
        have := drawOkFrom_get l (i + 1) h.2 x y p r (by omega) (by simpa using hx) (by simpa using hy)
        rw [show i + 1 + y = i + (y + 1) by omega, show i + 1 + x = i + (x + 1) by omega] at this; exact this
theorem writersOk_get {b : Array Nat} {i t : Nat} : ∀ (l : List Oper) (d : Nat), writersOk b i t d l = true → ∀ k o, l[k]? = some o → o.dst = some t → d + k = i ∨ (d + k < i ∧ ordB b i (d + k) = true) ∨ (i < d + k ∧ ordB b (d + k) i = true)
  | [], d, h, k, o, hk, _ => by simp at hk
  | x :: r, d, h, k, o, hk, hd => by
    simp only [writersOk, Bool.and_eq_true] at h
    cases k with
    | zero =>
      simp at hk; subst hk
      have h1 := h.1
      rw [hd] at h1
      simp only [Nat.beq_refl, Bool.not_true, Bool.false_or, Bool.or_eq_true] at h1
      rcases h1 with h1 | h1
      · exact .inl (Nat.eq_of_beq_eq_true h1)
      · cases hb : Nat.blt d i with
        | true =>
          rw [hb] at h1
          simp only [Nat.blt] at hb
          exact .inr (.inl ⟨Nat.le_of_ble_eq_true hb, h1⟩)
        | false =>
          rw [hb] at h1
          have : ¬ d < i := fun hlt => by
            have : Nat.blt d i = true := by simp only [Nat.blt]; exact Nat.ble_eq_true_of_le hlt
            rw [this] at hb; cases hb
          by_cases e : d = i
          · exact .inl e
          · exact .inr (.inr ⟨by omega, h1⟩)
    | succ k =>
      have := writersOk_get r (d + 1) h.2 k o (by simpa using hk) hd
      rw [show d + 1 + k = d + (k + 1) by omega] at this; exact this
theorem tmpsOk_get {b : Array Nat} {all : List Oper} : ∀ (l : List Oper) (i : Nat), tmpsOk b all i l = true → ∀ k o, l[k]? = some o → ∀ t, (o.dst = some t ∨ t ∈ looksL all o) → writersOk b (i + k) t 0 all = true
  | [], i, h, k, o, hk, _, _ => by simp at hk
  | x :: r, i, h, k, o, hk, t, ht => by
    simp only [tmpsOk, Bool.and_eq_true] at h
    cases k with
    | zero =>
      simp at hk; subst hk
      refine List.all_eq_true.1 h.1 t ?_
      rcases ht with ht | ht
      · simp [ht]
      · simp [ht]
    | succ k =>
      have := tmpsOk_get r (i + 1) h.2 k o (by simpa using hk) t ht
      rw [show i + 1 + k = i + (k + 1) by omega] at this; exact this
theorem guardsOk_get {b : Array Nat} : ∀ (l : List Oper) (i : Nat), guardsOk b i l = true → ∀ k o, l[k]? = some o → ∀ j want, o.guard = some (j, want) → j < i + k
  | [], i, h, k, o, hk, _, _, _ => by simp at hk
  | x :: r, i, h, k, o, hk, j, want, hg => by
    simp only [guardsOk, Bool.and_eq_true] at h
    cases k with
    | zero =>
      simp at hk; subst hk
      have h1 := h.1
      rw [hg] at h1
      simp only [Bool.and_eq_true, Nat.blt] at h1
      exact Nat.le_of_ble_eq_true h1.1
    | succ k =>
      have := guardsOk_get r (i + 1) h.2 k o (by simpa using hk) j want hg
      omega
structure DrawFacts (pm : Bool) (quiet : FuncId → Bool) (ops : Array Oper) : Prop where
  edges : ∀ i o, ops[i]? = some o → ∀ e ∈ o.after.toList, Region.binds .any e = true → e.on < i
  tmps : ∀ i o t d od, ops[i]? = some o → (o.dst = some t ∨ t ∈ looksL ops.toList o) → ops[d]? = some od → od.dst = some t → d = i ∨ (d < i ∧ ordB (Region.before ops) i d = true) ∨ (i < d ∧ ordB (Region.before ops) d i = true)
  guards : ∀ (i : Nat) (o : Oper), ops[i]? = some o → ∀ j want, o.guard = some (j, want) → j < i
  apart : ∀ i j o p, i < j → ops[i]? = some o → ops[j]? = some p → ordB (Region.before ops) j i = true ∨ kdApart (kindOp pm quiet o.op) (kindOp pm quiet p.op) = true
theorem drawOk_facts {pm : Bool} {quiet : FuncId → Bool} {ops : Array Oper} (h : drawOk pm quiet ops = true) : DrawFacts pm quiet ops := by
  unfold drawOk at h
  simp only [Bool.and_eq_true] at h
  obtain ⟨h1, h2, h3, h4⟩ := h
  refine ⟨fun i o hi e he hb => ?_, fun i o t d od hi ht hd hdt => ?_, fun i o hi j want hg => ?_, fun i j o p hij hi hj => ?_⟩
  · have := edgesOk_get _ 0 h1 i o (by simpa using hi) e he hb
    omega
  · have := tmpsOk_get _ 0 h2 i o (by simpa using hi) t ht
    have := writersOk_get _ 0 this d od (by simpa using hd) hdt
    simpa using this
  · have := guardsOk_get _ 0 h3 i o (by simpa using hi) j want hg
    omega
  · have := drawOkFrom_get _ 0 h4 i j o p hij (by simpa using hi) (by simpa using hj)
    simpa using this
end
end Go.Proofs.YtlflclfhldghbaaGreatDoor.Ls
end
section
namespace Go.Proofs.YtlflclfhldghbaaGreatDoor.Ls
open Go
section
variable {T : TypeId → VS} {cx : Cx T} {pm : Bool} {P : List Nat} {ops : Array Oper} {st : St T} {s s' : Nat → St T} {m : Nat → List Nat}
def okS (ops : Array Oper) (st : St T) (s : Nat → St T) (S : Nat → Prop) (id : Nat) : Prop :=
  id < st.heap.length ∨ GB ≤ id ∨ ∃ j, S j ∧ j < ops.size ∧ (s j).heap.length ≤ id ∧ id < (s (j + 1)).heap.length
def Cur (cx : Cx T) (ops : Array Oper) (st : St T) (s s' : Nat → St T) (S : Nat → Prop) (k : Nat) (o : Ob T) (q : Nat) : Prop :=
  (GB ≤ k ∧ cx.glob (k - GB) = some o ∧ q = 0) ∨
  (k < GB ∧ q ≤ ops.size ∧ (s q).heap[k]? = some o ∧ okS ops st s S k ∧ ∀ i, i < ops.size → k ∈ (s' i).dirty → k < (s (i + 1)).heap.length → (i < q ↔ S i))
structure Inv (cx : Cx T) (ops : Array Oper) (st : St T) (s s' : Nat → St T) (E0 : Emb) (a0 : Act) (w0 : World) (S : Nat → Prop) (E : Emb) (a : Act) (w : World) : Prop where
  agr : ∀ id, okId st.heap.length id → E id = E0 id
  size : a.tmps.size = cx.n
  defers : a.defers = a0.defers
  os : w.os = w0.os
  tape : w.tape = w0.tape
  out : w.output = w0.output
  hsz : w0.heap.size ≤ w.heap.size
  frame : ∀ b, b < w0.heap.size → (∀ i id, S i → i < ops.size → id ∈ (s' i).dirty → live E0 st.heap id → (E0 id).blk ≠ b) → w.heap[b]? = w0.heap[b]?
  ob : ∀ k o q, Cur cx ops st s s' S k o q → ∀ E', (∀ id, okS ops st s S id → E' id = E id) → ObR E' (s q).heap.length k w o
  sep : ∀ k k' o o' q q', k ≠ k' → Cur cx ops st s s' S k o q → Cur cx ops st s s' S k' o' q' → solid0 E k o → solid E k' o' → (E k).blk ≠ (E k').blk
  orig : ∀ k o q, Cur cx ops st s s' S k o q → k < GB → solid0 E k o → (k < st.heap.length ∧ live0 E0 st.heap k ∧ (solid E k o → live E0 st.heap k)) ∨
    (st.heap.length ≤ k ∧ (w0.heap.size ≤ (E k).blk ∨ ∃ i d, S i ∧ i < ops.size ∧ d ∈ (s' i).dirty ∧ live E0 st.heap d ∧ (E k).blk = (E0 d).blk))
  env : ∀ t q, q ≤ ops.size → (∀ i o, ops[i]? = some o → o.dst = some t → (i < q ↔ S i)) → ∀ E', (∀ id, okS ops st s S id → E' id = E id) → VR E' (s q).heap.length (getE (s q).env t) (a.tmps.getD t undef)
def closedS (ops : Array Oper) (S : Nat → Prop) : Prop := ∀ i o, S i → ops[i]? = some o → ∀ e ∈ o.after.toList, Region.binds .any e = true → S e.on
structure Ready (ops : Array Oper) (S : Nat → Prop) (i : Nat) : Prop where
  lt : i < ops.size
  new : ¬ S i
  all : ∀ o, ops[i]? = some o → ∀ e ∈ o.after.toList, Region.binds .any e = true → S e.on
theorem Ready.side {S : Nat → Prop} (hc : closedS ops S) {i j : Nat} (h : Ready ops S i) (hj : j = i ∨ (j < i ∧ ordB (Region.before ops) i j = true) ∨ (i < j ∧ ordB (Region.before ops) j i = true)) : (j < i ↔ S j) := by
  rcases hj with rfl | ⟨h1, h2⟩ | ⟨h1, h2⟩
  · exact ⟨fun h => by omega, fun hs => absurd hs h.new⟩
  · exact ⟨fun _ => before_in hc i j h.all h2, fun _ => h1⟩
  · refine ⟨fun h => by omega, fun hs => absurd (before_in hc j i (fun o ho => hc j o hs ho) h2) h.new⟩
theorem mayTouch_wr {k : Kd} {D : List Nat} (h : mayTouch k D = true) {x : Nat} (hx : x ∈ D) : k = .wr ∨ k = .pw := by
  cases k with
  | wr => exact .inl rfl
  | pw => exact .inr rfl
  | neu => cases D with
    | nil => cases hx
    | cons _ _ => simp [mayTouch] at h
  | rd => cases D with
    | nil => cases hx
    | cons _ _ => simp [mayTouch] at h
theorem touch_same {k1 k2 : Kd} {D1 D2 : List Nat} {x : Nat} (h1 : mayTouch k1 D1 = true) (p1 : allIn (isPw k1) P D1 = true) (x1 : x ∈ D1) (h2 : mayTouch k2 D2 = true) (p2 : allIn (isPw k2) P D2 = true) (x2 : x ∈ D2) : kdApart k1 k2 = false := by
  have e1 := allIn_get _ p1 x x1
  have e2 := allIn_get _ p2 x x2
  rcases mayTouch_wr h1 x1 with rfl | rfl <;> rcases mayTouch_wr h2 x2 with rfl | rfl <;> first | rfl | (rw [e1] at e2; simp [isPw] at e2)
theorem touch_seen {k1 k2 : Kd} {D2 : List Nat} {x : Nat} (hn : isNeu k1 = false) (hP : memN x P = isPw k1) (h2 : mayTouch k2 D2 = true) (p2 : allIn (isPw k2) P D2 = true) (x2 : x ∈ D2) : kdApart k1 k2 = false ∧ kdApart k2 k1 = false := by
  have e2 := allIn_get _ p2 x x2
  rw [hP] at e2
  rcases mayTouch_wr h2 x2 with rfl | rfl <;> cases k1 <;> simp [isPw, isNeu] at e2 hn <;> exact ⟨rfl, rfl⟩
theorem Ready.wr (hr : Run cx pm P ops st s s' m) (hf : DrawFacts pm cx.quiet ops) {S : Nat → Prop} (hc : closedS ops S) {i : Nat} (h : Ready ops S i) (hneu : isNeu (kindOp pm cx.quiet ops[i]!.op) = false) {j x : Nat} (hP : memN x P = isPw (kindOp pm cx.quiet ops[i]!.op)) (hj : j < ops.size) (hx : x ∈ (s' j).dirty) : (j < i ↔ S j) := by
  have hi := h.lt
  have hio : ops[i]? = some ops[i] := by simp [hi]
  have hjo : ops[j]? = some ops[j] := by simp [hj]
  have hneu : isNeu (kindOp pm cx.quiet ops[i].op) = false := by simpa [hi] using hneu
  have hP : memN x P = isPw (kindOp pm cx.quiet ops[i].op) := by simpa [hi] using hP
  obtain ⟨w1, w2⟩ := touch_seen hneu hP (hr.step' hj).touch (hr.step' hj).inP hx
  refine h.side hc ?_
  by_cases e : j = i
  · exact .inl e
  · by_cases hlt : j < i
    · rcases hf.apart j i _ _ hlt hjo hio with h1 | h1
      · exact .inr (.inl ⟨hlt, h1⟩)
      · rw [w2] at h1; cases h1
    · rcases hf.apart i j _ _ (by omega) hio hjo with h1 | h1
      · exact .inr (.inr ⟨by omega, h1⟩)
      · rw [w1] at h1; cases h1
theorem ObR.grow {E : Emb} {N N' id : Nat} {w : World} {o : Ob T} (h : ObR E N id w o) (hN : N ≤ N') : ObR E N' id w o :=
  h.step rfl (fun _ _ => rfl) hN (fun _ => rfl)
theorem Inv.str (hr : Run cx pm P ops st s s' m) (hf : DrawFacts pm cx.quiet ops) {E0 : Emb} {a0 : Act} {w0 : World} (hS0 : Sim cx.glob E0 st.heap w0) {S : Nat → Prop} (hc : closedS ops S) {E : Emb} {a : Act} {w : World}
    (inv : Inv cx ops st s s' E0 a0 w0 S E a w) {i : Nat} (h : Ready ops S i) :
    StR cx E { s i with env := envAt (s i).env (looksL ops.toList ops[i]!), heap := maskP (isPw (kindOp pm cx.quiet ops[i]!.op)) P 0 (maskH (Region.before ops) i st.heap.length (isNeu (kindOp pm cx.quiet ops[i]!.op)) 0 (m i) (s i).heap), dirty := [] } a w := by
  have hi := h.lt
  have hlen := (maskP_len (pw := isPw (kindOp pm cx.quiet ops[i]!.op)) (P := P) (maskH (Region.before ops) i st.heap.length (isNeu (kindOp pm cx.quiet ops[i]!.op)) 0 (m i) (s i).heap) 0).trans (maskH_len (b := Region.before ops) (i := i) (n0 := st.heap.length) (neu := isNeu (kindOp pm cx.quiet ops[i]!.op)) (s i).heap 0 (m i))
  have hle : (s i).heap.length ≤ GB := hr.leGB hS0.le (by omega)
  have hn0 := hr.n0 (q := i) (by omega)
  have cur : ∀ k o, lookO cx.glob (maskP (isPw (kindOp pm cx.quiet ops[i]!.op)) P 0 (maskH (Region.before ops) i st.heap.length (isNeu (kindOp pm cx.quiet ops[i]!.op)) 0 (m i) (s i).heap)) k = some o → o = .dead ∨ ∃ q, q ≤ i ∧ Cur cx ops st s s' S k o q := by
    intro k o hk
    by_cases hg : GB ≤ k
    · rw [lookO_ge hg] at hk
      exact .inr ⟨0, by omega, .inl ⟨hg, hk, rfl⟩⟩
    · rw [lookO_lt (by omega)] at hk
      rcases maskP_get _ _ _ _ hk with rfl | ⟨hk, hkP⟩
      · exact .inl rfl
      rw [Nat.zero_add] at hkP
      rcases hr.mask hi hk with rfl | ⟨h1, h2, h3⟩
      · exact .inl rfl
      · refine .inr ⟨i, Nat.le_refl _, .inr ⟨by omega, by omega, h2, ?_, fun j hj hx _ => h.wr hr hf hc h1 hkP hj hx⟩⟩
        rcases h3 with h3 | ⟨j, h3, h4, h5, h6⟩
        · exact .inl h3
        · exact .inr (.inr ⟨j, before_in hc i j h.all h6, by omega, h4, h5⟩)
  refine ⟨⟨by show (maskP _ _ _ _).length ≤ GB; rw [hlen]; exact hle, ?_, ?_, ?_, hS0.gok⟩, ?_, inv.size⟩
  · intro k o hk
    rcases cur k o hk with rfl | ⟨q, hq, hcur⟩
    · trivial
    · refine (inv.ob k o q hcur E (fun _ _ => rfl)).grow ?_
      show _ ≤ (maskP _ _ _ _).length
      rw [hlen]; exact hr.mono hq (by omega)
  · intro k k' o o' hne hk hk' hs hs'
    rcases cur k o hk with rfl | ⟨q, _, c1⟩
    · exact hs.elim
    · rcases cur k' o' hk' with rfl | ⟨q', _, c2⟩
      · exact hs'.elim
      · exact inv.sep k k' o o' q q' hne c1 c2 hs hs'
  · intro id hid; rw [inv.agr id (.inr hid)]; exact hS0.glo id hid
  · intro t
    show VR E (maskP _ _ _ _).length (getE (envAt _ _) t) _
    rw [hlen, envAt_get]
    split
    · rename_i ht
      refine inv.env t i (by omega) (fun j o hj hd => ?_) E (fun _ _ => rfl)
      have hio : ops[i]? = some ops[i]! := by simp [hi]
      exact h.side hc (hf.tmps i ops[i]! t j o hio (.inr ht) hj hd)
    · exact .any _
end
end Go.Proofs.YtlflclfhldghbaaGreatDoor.Ls
end
section
namespace Go.Proofs.YtlflclfhldghbaaGreatDoor.Ls
open Go
section
variable {T : TypeId → VS} {cx : Cx T} {pm : Bool} {P : List Nat} {ops : Array Oper} {st : St T} {s s' : Nat → St T} {m : Nat → List Nat}
theorem Cur.next (hr : Run cx pm P ops st s s' m) (hf : DrawFacts pm cx.quiet ops) {S : Nat → Prop} (hc : closedS ops S) {i : Nat} (h : Ready ops S i) {k q : Nat} {o : Ob T} (hcur : Cur cx ops st s s' (fun j => S j ∨ j = i) k o q) :
    (Cur cx ops st s s' S k o q ∧ ¬ (k < (s (i + 1)).heap.length ∧ (k ∈ (s' i).dirty ∨ (s i).heap.length ≤ k))) ∨
    (k < GB ∧ i < q ∧ q ≤ ops.size ∧ (s' i).heap[k]? = some o ∧ k < (s (i + 1)).heap.length ∧ (k ∈ (s' i).dirty ∨ (s i).heap.length ≤ k)) := by
  have hi := h.lt
  have hio : ops[i]? = some ops[i] := by simp [hi]
  rcases hcur with ⟨c1, c2, c3⟩ | ⟨c1, c2, c3, c4, c5⟩
  · left
    refine ⟨.inl ⟨c1, c2, c3⟩, fun hx => ?_⟩
    have := (hr.step' hi).le; rw [← (hr.step' hi).len1] at this; omega
  · have hkq : k < (s q).heap.length := (List.getElem?_eq_some_iff.1 c3).1
    by_cases hk : k < (s (i + 1)).heap.length ∧ (k ∈ (s' i).dirty ∨ (s i).heap.length ≤ k)
    · right
      obtain ⟨hk1, hk2⟩ := hk
      have hiq : i < q := by
        rcases hk2 with hk2 | hk2
        · exact (c5 i hi hk2 hk1).2 (.inr rfl)
        · apply Nat.lt_of_not_le; intro hle
          have := hr.mono hle (by omega); omega
      have hsame : (s q).heap[k]? = (s (i + 1)).heap[k]? := by
        refine hr.same hk1 (by omega) c2 (fun j h1 h2 hd => ?_)
        have hj : j < ops.size := by omega
        have hkj : k < (s (j + 1)).heap.length := Nat.lt_of_lt_of_le hk1 (hr.mono (by omega) (by omega))
        have hsj : S j := ((c5 j hj hd hkj).1 h2).resolve_right (by omega)
        have hjo : ops[j]? = some ops[j] := by simp [hj]
        have bad : ordB (Region.before ops) j i = true → False := fun hb => h.new (before_in hc j i (fun o ho => hc j o hsj ho) hb)
        rcases hk2 with hk2 | hk2
        · rcases hf.apart i j _ _ (by omega) hio hjo with h3 | h3
          · exact bad h3
          · rw [touch_same (hr.step' hi).touch (hr.step' hi).inP hk2 (hr.step' hj).touch (hr.step' hj).inP hd] at h3
            cases h3
        · have hv := List.all_eq_true.1 (hr.step' hj).visD k hd
          have hn := hr.n0 (q := i) (by omega)
          have hm := hr.mono (p := i + 1) (q := j) (by omega) (by omega)
          rcases hr.vis hj hv with h3 | h3 | ⟨j', h3, h4, h5, h6⟩
          · omega
          · omega
          · have := hr.maker_uniq (i := i) (j := j') hi (by omega) hk2 hk1 h4 h5
            subst this; exact bad h6
      refine ⟨c1, hiq, c2, ?_, hk1, hk2⟩
      rw [← c3, hsame, (hr.step' hi).heap1, if_neg]
      rintro ⟨q1, q2⟩
      rcases hk2 with hk2 | hk2
      · exact q2 hk2
      · omega
    · left
      refine ⟨.inr ⟨c1, c2, c3, ?_, fun j hj hd hl => ?_⟩, hk⟩
      · rcases c4 with c4 | c4 | ⟨j, c4 | rfl, c6, c7, c8⟩
        · exact .inl c4
        · exact .inr (.inl c4)
        · exact .inr (.inr ⟨j, c4, c6, c7, c8⟩)
        · exact absurd ⟨c8, .inr c7⟩ hk
      · by_cases e : j = i
        · subst e; exact absurd ⟨hl, .inl hd⟩ hk
        · rw [c5 j hj hd hl]
          exact ⟨fun h => h.resolve_right e, .inl⟩
end
end Go.Proofs.YtlflclfhldghbaaGreatDoor.Ls
end
