-- Texts of this claim, joined and cut down to what it uses (a program of this session).
import Derived.Test.YtlflclfhldghbaaGreatDoorT3
import Derived.StillTail
import Derived.Recover
import Derived.Laws.Externs
import Derived.Test.YtlflclfhldghbaaGreatDoorProg
import Derived.KernelRfl
set_option linter.unusedVariables false
set_option linter.unusedSimpArgs false
set_option linter.unnecessarySimpa false
section
namespace Go.Proofs.YtlflclfhldghbaaGreatDoor.Ls
open Go
section
variable {T : TypeId → VS} {cx : Cx T} {pm : Bool} {P : List Nat} {ops : Array Oper} {st : St T} {s s' : Nat → St T} {m : Nat → List Nat}
theorem oneOp_put {st : St T} {o : Oper} {all : List Oper} {st' : St T} (hp : (oneOp cx all o st).pick = some (.done st')) {t : Nat} (ht : o.dst = some t) : ∃ v news, st'.env = ((t, v) :: news) ++ st.env := by
  have done_ : ∀ (st : St T) (k : Bool), ((opL cx st o).bind (doneOp cx o k)).pick = some (.done st') → ∃ v, st'.env = (t, v) :: st.env := by
    intro st k hp
    obtain ⟨q, h1, h2⟩ := pick_bind _ _ _ hp
    cases q with
    | val v st1 =>
      simp only [doneOp] at h2
      split at h2
      · rename_i st2 hle hput
        have := pick_leaf h2
        cases this
        rw [(note_eq st2 o.dst k).2.1]
        rcases (put_eq hput).2.2.2.2 with ⟨hn, _⟩ | ⟨u, hu, _, e⟩
        · rw [ht] at hn; cases hn
        · rw [ht] at hu; cases hu; exact ⟨v, by rw [e, show st1.env = st.env from opL_env h1]⟩
      · exact (pick_fail h2).elim
    | pan v st1 =>
      simp only [doneOp] at h2
      split at h2
      · have := pick_leaf h2; cases this
      · exact (pick_fail h2).elim
  unfold oneOp at hp
  split at hp
  · obtain ⟨v, e⟩ := done_ _ _ hp; exact ⟨v, [], e⟩
  · split at hp
    · exact (pick_fail hp).elim
    · split at hp
      · exact (pick_fail hp).elim
      · split at hp
        · split at hp
          · rename_i st2 hput
            have := pick_leaf hp; cases this
            rcases (put_eq hput).2.2.2.2 with ⟨hn, _⟩ | ⟨u, hu, _, e⟩
            · rw [ht] at hn; cases hn
            · rw [ht] at hu; cases hu; exact ⟨skipV, [], by rw [e]; rfl⟩
          · exact (pick_fail hp).elim
        obtain ⟨⟨b, st1⟩, h1, h2⟩ := pick_bind _ _ _ hp
        obtain ⟨_, _, _, _, news, hn⟩ := splitOn_ok h1
        simp only at h2
        split at h2
        · obtain ⟨v, e⟩ := done_ _ _ h2; exact ⟨v, news, by rw [e, hn]; rfl⟩
        · split at h2
          · rename_i st2 hput
            have := pick_leaf h2; cases this
            rcases (put_eq hput).2.2.2.2 with ⟨hn, _⟩ | ⟨u, hu, _, e⟩
            · rw [ht] at hn; cases hn
            · rw [ht] at hu; cases hu; exact ⟨skipV, news, by rw [e, hn]; rfl⟩
          · exact (pick_fail h2).elim
theorem Inv.step (hr : Run cx pm P ops st s s' m) (hf : DrawFacts pm cx.quiet ops) {E0 : Emb} {a0 : Act} {w0 : World} (hS0 : Sim cx.glob E0 st.heap w0) {S : Nat → Prop} (hc : closedS ops S) {E : Emb} {a : Act} {w : World}
    (inv : Inv cx ops st s s' E0 a0 w0 S E a w) {i : Nat} (h : Ready ops S i) {X : St T} {neu : Bool} (hneu : neu = isNeu (kindOp pm cx.quiet ops[i]!.op)) (hX : X.heap = maskP (isPw (kindOp pm cx.quiet ops[i]!.op)) P 0 (maskH (Region.before ops) i st.heap.length neu 0 (m i) (s i).heap))
    {E2 : Emb} {a1 : Act} {w1 : World} (hdef : a1.defers = a.defers) (hstr : StR cx E2 (s' i) a1 w1) (hstp : Stp cx.glob E X w E2 (s' i) w1)
    (hput : ∀ t, ops[i]!.dst ≠ some t → a1.tmps.getD t undef = a.tmps.getD t undef) : ∃ E1, Inv cx ops st s s' E0 a0 w0 (fun j => S j ∨ j = i) E1 a1 w1 := by
  have hi := h.lt
  have hio : ops[i]? = some ops[i]! := by simp [hi]
  have d := h.lt |> hr.step'
  have hXl : X.heap.length = (s i).heap.length := by rw [hX, maskP_len, maskH_len]
  have hL1 : (s (i + 1)).heap.length = (s' i).heap.length := d.len1
  have hLL := hr.lenS hi
  have hn0 := hr.n0 (q := i) (by omega)
  have hGB : (s (i + 1)).heap.length ≤ GB := hr.leGB hS0.le (by omega)
  have hE2 : ∀ id, okId (s i).heap.length id → E2 id = E id := fun id hid => hstp.agr id (by rw [hXl]; exact hid)
  let E1 : Emb := fun id => if (s i).heap.length ≤ id ∧ id < (s (i + 1)).heap.length then E2 id else E id
  have hnew : ∀ id, (s i).heap.length ≤ id → id < (s (i + 1)).heap.length → E1 id = E2 id := fun id h1 h2 => if_pos ⟨h1, h2⟩
  have hold : ∀ id, okS ops st s S id → E1 id = E id := by
    intro id hid
    refine if_neg ?_
    rintro ⟨h1, h2⟩
    rcases hid with hid | hid | ⟨j, hj, hjl, h3, h4⟩
    · omega
    · omega
    · have := hr.maker_uniq hi hjl h1 h2 h3 h4
      subst this; exact h.new hj
  have up : ∀ id, okS ops st s S id → okS ops st s (fun j => S j ∨ j = i) id := by
    rintro id (h1 | h1 | ⟨j, hj, h2⟩)
    · exact .inl h1
    · exact .inr (.inl h1)
    · exact .inr (.inr ⟨j, .inl hj, h2⟩)
  have own : ∀ id, (s i).heap.length ≤ id → id < (s (i + 1)).heap.length → okS ops st s (fun j => S j ∨ j = i) id := fun id h1 h2 => .inr (.inr ⟨i, .inr rfl, hi, h1, h2⟩)
  have hvis : ∀ id, visId (Region.before ops) i st.heap.length (s i).heap.length (m i) id = true → okId (s (i + 1)).heap.length id → okS ops st s (fun j => S j ∨ j = i) id ∧ E1 id = E2 id := by
    intro id hv hok
    have low : okS ops st s S id → okId (s i).heap.length id → okS ops st s (fun j => S j ∨ j = i) id ∧ E1 id = E2 id := fun h1 h2 => ⟨up id h1, by rw [hold id h1, hE2 id h2]⟩
    rcases hr.vis hi hv with h1 | h1 | ⟨j, h1, h2, h3, h4⟩
    · exact low (.inl h1) (.inl (by omega))
    · rcases hok with hok | hok
      · exact ⟨own id h1 hok, hnew id h1 hok⟩
      · exact low (.inr (.inl hok)) (.inr hok)
    · have := hr.mono (p := j + 1) (q := i) (by omega) (by omega)
      exact low (.inr (.inr ⟨j, before_in hc i j h.all h4, by omega, h2, h3⟩)) (.inl (by omega))
  have curM : ∀ k o, X.heap[k]? = some o → solid0 E k o → Cur cx ops st s s' S k o i := by
    intro k o hk hs
    rw [hX] at hk
    rcases maskP_get _ _ _ _ hk with rfl | ⟨hk, hkP⟩
    · exact hs.elim
    rw [Nat.zero_add] at hkP
    rcases hr.mask hi hk with rfl | ⟨h1, h2, h3⟩
    · exact hs.elim
    · have hkl : k < (s i).heap.length := (List.getElem?_eq_some_iff.1 h2).1
      refine .inr ⟨by omega, by omega, h2, ?_, fun j hj hx _ => h.wr hr hf hc (by rw [← hneu]; exact h1) hkP hj hx⟩
      rcases h3 with h3 | ⟨j, h3, h4, h5, h6⟩
      · exact .inl h3
      · exact .inr (.inr ⟨j, before_in hc i j h.all h6, by omega, h4, h5⟩)
  have okCur : ∀ k o q, Cur cx ops st s s' S k o q → okS ops st s S k := by
    rintro k o q (⟨h1, _⟩ | ⟨_, _, _, h4, _⟩)
    · exact .inr (.inl h1)
    · exact h4
  have blkOld : ∀ k o q, Cur cx ops st s s' S k o q → ¬ (k < (s (i + 1)).heap.length ∧ (k ∈ (s' i).dirty ∨ (s i).heap.length ≤ k)) → solid0 E k o → w1.heap[(E k).blk]? = w.heap[(E k).blk]? := by
    intro k o q hcur hk hs
    refine hstp.frame _ ((inv.ob k o q hcur E (fun _ _ => rfl)).lt hs) (fun id hid hlt hlv => ?_)
    obtain ⟨o', ho', hs'⟩ := hlv
    rw [hXl] at hlt
    exact (inv.sep k id o o' q i (fun e => hk ⟨by omega, .inl (e ▸ hid)⟩) hcur (curM id o' ho' hs'.to0) hs hs').symm
  have inB : ∀ k, k < (s (i + 1)).heap.length → (k ∈ (s' i).dirty ∨ (s i).heap.length ≤ k) → okS ops st s (fun j => S j ∨ j = i) k ∧ E1 k = E2 k := by
    intro k h1 h2
    rcases h2 with h2 | h2
    · exact hvis k (List.all_eq_true.1 d.visD k h2) (.inl h1)
    · exact ⟨own k h2 h1, hnew k h2 h1⟩
  have newOb : ∀ k o, (s' i).heap[k]? = some o → k < (s (i + 1)).heap.length → (k ∈ (s' i).dirty ∨ (s i).heap.length ≤ k) → ∀ E', (∀ id, okS ops st s (fun j => S j ∨ j = i) id → E' id = E1 id) → ObR E' (s (i + 1)).heap.length k w1 o := by
    intro k o ho hk1 hk2 E' hE'
    have hb := hstr.sim.ob k o (by rw [lookO_lt (by omega)]; exact ho)
    rw [← hL1] at hb
    obtain ⟨b1, b2⟩ := inB k hk1 hk2
    refine visOb_ObR (vis := visId (Region.before ops) i st.heap.length (s i).heap.length (m i)) (fun id hv hok => ?_) ((hE' k b1).trans b2) (visH_get _ 0 d.visH k o ho (by simpa using hk2)) hb
    obtain ⟨v1, v2⟩ := hvis id hv hok
    exact ⟨(hE' id v1).trans v2, hok⟩
  have Bsrc : ∀ k o, (s' i).heap[k]? = some o → solid0 E2 k o → k < (s (i + 1)).heap.length → (k ∈ (s' i).dirty ∨ (s i).heap.length ≤ k) → w.heap.size ≤ (E2 k).blk ∨
      ∃ e o', e ∈ (s' i).dirty ∧ e < (s i).heap.length ∧ X.heap[e]? = some o' ∧ (solid0 E e o' ∧ (e = k ∨ solid E e o') ∧ (solid E2 k o → solid E e o')) ∧ (E2 k).blk = (E e).blk := by
    intro k o ho hs hk1 hk2
    by_cases hl : k < (s i).heap.length
    · have hd : k ∈ (s' i).dirty := hk2.resolve_right (by omega)
      obtain ⟨o', h1, h2⟩ := (hstp.dead k (by rw [hXl]; exact hl)).2 ⟨o, ho, hs⟩
      refine .inr ⟨k, o', hd, hl, h1, ⟨h2, .inl rfl, fun h => ?_⟩, by rw [hE2 k (.inl hl)]⟩
      obtain ⟨o2, g1, g2⟩ := (hstp.dead k (by rw [hXl]; exact hl)).1 ⟨o, ho, h⟩
      obtain rfl : o2 = o' := Option.some.inj (g1.symm.trans h1)
      exact g2
    · rcases hstp.fresh k (by rw [hXl]; omega) (by rw [← hL1]; exact hk1) ⟨o, ho, hs⟩ with h1 | ⟨e, h1, h2, ⟨o', h3, h4⟩, h5⟩
      · exact .inl h1
      · exact .inr ⟨e, o', h1, by rw [← hXl]; exact h2, h3, ⟨h4.to0, .inr h4, fun _ => h4⟩, h5⟩
  have S1 : ∀ {E' : Emb}, (∀ id, okS ops st s (fun j => S j ∨ j = i) id → E' id = E1 id) → ∀ id, okS ops st s S id → E' id = E id := fun hE' id hid => (hE' id (up id hid)).trans (hold id hid)
  refine ⟨E1, ⟨fun id hid => ?_, hstr.size, hdef.trans inv.defers, hstp.os.trans inv.os, hstp.tape.trans inv.tape, hstp.out.trans inv.out, Nat.le_trans inv.hsz hstp.size, ?_, ?_, ?_, ?_, ?_⟩⟩
  · rw [hold id (by rcases hid with h | h; exact .inl h; exact .inr (.inl h)), inv.agr id hid]
  · intro b hb hT
    rw [hstp.frame b (Nat.lt_of_lt_of_le hb inv.hsz) ?_, inv.frame b hb (fun j id hj hjl hd hlv => hT j id (.inl hj) hjl hd hlv)]
    intro id hid hlt hlv
    obtain ⟨o', ho', hs'⟩ := hlv
    rw [hXl] at hlt
    rcases inv.orig id o' i (curM id o' ho' hs'.to0) (by omega) hs'.to0 with ⟨h1, _, h2⟩ | ⟨h1, h2 | ⟨j, e, h2, h3, h4, h5, h6⟩⟩
    · rw [inv.agr id (.inl h1)]; exact hT i id (.inr rfl) hi hid (h2 hs')
    · omega
    · rw [h6]; exact hT j e (.inl h2) h3 h4 h5
  · intro k o q hcur E' hE'
    rcases hcur.next hr hf hc h with ⟨c1, c2⟩ | ⟨c1, c2, c3, c4, c5, c6⟩
    · have ek := S1 hE' k (okCur k o q c1)
      refine (inv.ob k o q c1 E' (S1 hE')).step rfl (fun _ _ => rfl) (Nat.le_refl _) (fun hs => ?_)
      rw [ek]; exact blkOld k o q c1 c2 (solid0_eq ek hs)
    · exact (newOb k o c4 c5 c6 E' hE').grow (hr.mono (by omega) c3)
  · have apart : ∀ k k' o o' q, k ≠ k' → Cur cx ops st s s' S k o q → ¬ (k < (s (i + 1)).heap.length ∧ (k ∈ (s' i).dirty ∨ (s i).heap.length ≤ k)) → solid0 E k o → (s' i).heap[k']? = some o' → solid0 E2 k' o' → (solid E k o ∨ solid E2 k' o') → k' < (s (i + 1)).heap.length → (k' ∈ (s' i).dirty ∨ (s i).heap.length ≤ k') → (E k).blk ≠ (E2 k').blk := by
      intro k k' o o' q hne c1 c2 hs ho' hs' hor b1 b2
      rcases Bsrc k' o' ho' hs' b1 b2 with h1 | ⟨e, oe, h1, h2, h3, h4, h5⟩
      · have := (inv.ob k o q c1 E (fun _ _ => rfl)).lt hs; omega
      · rw [h5]
        have hke : k ≠ e := fun he => c2 ⟨by omega, .inl (by rw [he]; exact h1)⟩
        rcases hor with hor | hor
        · exact (inv.sep e k oe o i q hke.symm (curM e oe h3 h4.1) c1 h4.1 hor).symm
        · exact inv.sep k e o oe q i hke c1 (curM e oe h3 h4.1) hs (h4.2.2 hor)
    intro k k' o o' q q' hne hk hk' hs hs'
    rcases hk.next hr hf hc h with ⟨c1, c2⟩ | ⟨c1, c2, c3, c4, c5, c6⟩ <;> rcases hk'.next hr hf hc h with ⟨e1, e2⟩ | ⟨e1, e2, e3, e4, e5, e6⟩
    · have x1 := hold k (okCur _ _ _ c1)
      have x2 := hold k' (okCur _ _ _ e1)
      rw [x1, x2]; exact inv.sep k k' o o' q q' hne c1 e1 (solid0_eq x1 hs) (solid_eq x2 hs')
    · have x1 := hold k (okCur _ _ _ c1)
      have x2 := (inB k' e5 e6).2
      rw [x1, x2]; exact apart k k' o o' q hne c1 c2 (solid0_eq x1 hs) e4 (solid_eq x2 hs').to0 (.inr (solid_eq x2 hs')) e5 e6
    · have x1 := (inB k c5 c6).2
      have x2 := hold k' (okCur _ _ _ e1)
      rw [x1, x2]; exact (apart k' k o' o q' (Ne.symm hne) e1 e2 (solid_eq x2 hs').to0 c4 (solid0_eq x1 hs) (.inl (solid_eq x2 hs')) c5 c6).symm
    · have x1 := (inB k c5 c6).2
      have x2 := (inB k' e5 e6).2
      rw [x1, x2]
      exact hstr.sim.sep k k' o o' hne (by rw [lookO_lt c1]; exact c4) (by rw [lookO_lt e1]; exact e4) (solid0_eq x1 hs) (solid_eq x2 hs')
  · intro k o q hk hkg hs
    rcases hk.next hr hf hc h with ⟨c1, c2⟩ | ⟨c1, c2, c3, c4, c5, c6⟩
    · have x1 := hold k (okCur _ _ _ c1)
      rcases inv.orig k o q c1 hkg (solid0_eq x1 hs) with ⟨h1, h2, h3⟩ | ⟨h1, h2 | ⟨j, e, h2, h3⟩⟩
      · exact .inl ⟨h1, h2, fun h => h3 (solid_eq x1 h)⟩
      · exact .inr ⟨h1, .inl (by rw [x1]; exact h2)⟩
      · exact .inr ⟨h1, .inr ⟨j, e, .inl h2, by rw [x1]; exact h3⟩⟩
    · have x1 := (inB k c5 c6).2
      have hs2 := solid0_eq x1 hs
      by_cases hkn : k < st.heap.length
      · obtain ⟨o', h1, h2⟩ := (hstp.dead k (by rw [hXl]; omega)).2 ⟨o, c4, hs2⟩
        rcases inv.orig k o' i (curM k o' h1 h2) hkg h2 with ⟨h3, h4, h5⟩ | ⟨h3, _⟩
        · refine .inl ⟨h3, h4, fun h => h5 ?_⟩
          obtain ⟨o2, g1, g2⟩ := (hstp.dead k (by rw [hXl]; omega)).1 ⟨o, c4, solid_eq x1 h⟩
          obtain rfl : o2 = o' := Option.some.inj (g1.symm.trans h1)
          exact g2
        · omega
      · refine .inr ⟨by omega, ?_⟩
        rw [x1]
        rcases Bsrc k o c4 hs2 c5 c6 with h1 | ⟨e, oe, h1, h2, h3, h4, h5⟩
        · exact .inl (Nat.le_trans inv.hsz h1)
        · rw [h5]
          rcases inv.orig e oe i (curM e oe h3 h4.1) (by omega) h4.1 with ⟨g1, _, g2⟩ | ⟨g1, g2 | ⟨j, e', g2, g3⟩⟩
          · have h6 : solid E e oe := h4.2.1.resolve_left (by omega)
            exact .inr ⟨i, e, .inr rfl, hi, h1, g2 h6, by rw [inv.agr e (.inl g1)]⟩
          · exact .inl g2
          · exact .inr ⟨j, e', .inl g2, g3⟩
  · intro t q hq hcomp E' hE'
    by_cases ht : ops[i]!.dst = some t
    · have hiq : i < q := (hcomp i _ hio ht).2 (.inr rfl)
      have hv := hstr.env t
      rw [← hL1] at hv
      have e1 : getE (s (i + 1)).env t = getE (s' i).env t ∧ visV (visId (Region.before ops) i st.heap.length (s i).heap.length (m i)) 4 (getE (s' i).env t) = true := by
        have hdst : ops[i].dst = some t := by simpa [hi] using ht
        obtain ⟨v, news, he⟩ := oneOp_put d.run hdst
        have he : (s' i).env = ((t, v) :: news) ++ envAt (s i).env (looksL ops.toList ops[i]) := he
        have hlen : (s' i).env.length - (looksL ops.toList ops[i]).length = ((t, v) :: news).length := by rw [he, List.length_append, envAt_len]; omega
        have htk : takeE ((s' i).env.length - (looksL ops.toList ops[i]).length) (s' i).env = (t, v) :: news := by
          have := takeE_append ((t, v) :: news) (envAt (s i).env (looksL ops.toList ops[i]))
          rw [envAt_len] at this
          rw [he]; exact this
        have h1 : getE (s' i).env t = v := by rw [he]; simp [getE_cons]
        have h2 : getE (s (i + 1)).env t = v := by
          rw [d.st1]
          show getE (takeE _ _ ++ (s i).env) t = v
          rw [htk]; simp [getE_cons]
        have h3 := d.visE
        rw [hlen, he] at h3
        have h4 := visE_get _ _ h3 (t, v) (by simp)
        exact ⟨h2.trans h1.symm, by rw [h1]; exact h4⟩
      have base : VR E' (s (i + 1)).heap.length (getE (s (i + 1)).env t) (a1.tmps.getD t undef) := by
        rw [e1.1]
        refine visV_VR (vis := visId (Region.before ops) i st.heap.length (s i).heap.length (m i)) (fun id hv' hok => ?_) 4 _ _ e1.2 hv
        obtain ⟨v1, v2⟩ := hvis id hv' hok
        exact ⟨(hE' id v1).trans v2, hok⟩
      have go : ∀ p, i + 1 ≤ p → p ≤ q → VR E' (s p).heap.length (getE (s p).env t) (a1.tmps.getD t undef) := by
        intro p
        induction p with
        | zero => intro h1; omega
        | succ p ih =>
          intro h1 h2
          by_cases e : p = i
          · subst e; exact base
          · have hp : p < ops.size := by omega
            have hpo : ops[p]? = some ops[p] := by simp [hp]
            have hne : ops[p].dst ≠ some t := by
              intro hd
              have hs := ((hcomp p _ hpo hd).1 (by omega)).resolve_right e
              rcases hf.tmps i _ t p _ hio (.inl ht) hpo hd with h3 | ⟨h3, _⟩ | ⟨_, h4⟩
              · exact e h3
              · omega
              · exact h.new (before_in hc p i (fun o ho => hc p o hs ho) h4)
            have ihp := (ih (by omega) (by omega)).mono (E' := E') (fun _ _ => rfl) (hr.lenS hp)
            rcases (hr.step' hp).env1 hne with h5 | h5
            · rw [h5]; exact ihp
            · rw [h5]; exact .any _
      exact go q (by omega) (Nat.le_refl _)
    · rw [hput t ht]
      refine inv.env t q hq (fun j o hj hd => ?_) E' (S1 hE')
      rw [hcomp j o hj hd]
      exact ⟨fun h => h.resolve_right (fun e => by subst e; rw [hio] at hj; cases hj; exact ht hd), .inl⟩
end
end Go.Proofs.YtlflclfhldghbaaGreatDoor.Ls
end
section
namespace Go.Proofs.YtlflclfhldghbaaGreatDoor.Ls
open Go
section
variable {T : TypeId → VS} {cx : Cx T} {pm : Bool} {P : List Nat} {ops : Array Oper} {st : St T} {s s' : Nat → St T} {m : Nat → List Nat}
theorem Sim.of_heap {glob : Nat → Option (Ob T)} {E : Emb} {H : List (Ob T)} {w w' : World} (h : Sim glob E H w) (e : w'.heap = w.heap) : Sim glob E H w' :=
  ⟨h.le, fun id o ho => (h.ob id o ho).step rfl (fun _ _ => rfl) (Nat.le_refl _) (fun _ => by rw [e]), h.sep, h.glo, h.gok⟩
theorem Run.dirty (hr : Run cx pm P ops st s s' m) {q : Nat} (hq : q ≤ ops.size) : (∀ id, id ∈ st.dirty → id ∈ (s q).dirty) ∧ ∀ i, i < q → ∀ id, id ∈ (s' i).dirty → id ∈ (s q).dirty := by
  induction q with
  | zero => rw [hr.s0]; exact ⟨fun _ h => h, fun i hi => by omega⟩
  | succ q ih =>
    obtain ⟨h1, h2⟩ := ih (by omega)
    have d := hr.step' (k := q) (by omega)
    have e : (s (q + 1)).dirty = unionN (s' q).dirty (s q).dirty := by rw [d.st1]
    refine ⟨fun id hid => by rw [e, unionN_mem]; exact .inr (h1 id hid), fun i hi id hid => ?_⟩
    rw [e, unionN_mem]
    by_cases hiq : i = q
    · subst hiq; exact .inl hid
    · exact .inr (h2 i (by omega) id hid)
theorem Inv.last (hr : Run cx pm P ops st s s' m) {E0 : Emb} {a0 : Act} {w0 w : World} {wS : World} (hS0 : Sim cx.glob E0 st.heap w0) (hgen : (s ops.size).gen = st.gen) {S : Nat → Prop} (hall : ∀ i, i < ops.size → S i) {E : Emb} {a : Act}
    (inv : Inv cx ops st s s' E0 a0 w0 S E a w) : StR cx E (s ops.size) a w ∧ Stp cx.glob E0 st w0 E (s ops.size) w := by
  have cur : ∀ k o, lookO cx.glob (s ops.size).heap k = some o → ∃ q, q ≤ ops.size ∧ Cur cx ops st s s' S k o q := by
    intro k o hk
    by_cases hg : GB ≤ k
    · rw [lookO_ge hg] at hk
      exact ⟨0, by omega, .inl ⟨hg, hk, rfl⟩⟩
    · rw [lookO_lt (by omega)] at hk
      have hkl := (List.getElem?_eq_some_iff.1 hk).1
      refine ⟨ops.size, Nat.le_refl _, .inr ⟨by omega, Nat.le_refl _, hk, ?_, fun i hi _ _ => ⟨fun _ => hall i hi, fun _ => hi⟩⟩⟩
      by_cases hn : k < st.heap.length
      · exact .inl hn
      · have hml := hr.mlen (q := ops.size) (Nat.le_refl _)
        have hlt : k - st.heap.length < (m ops.size).length := by omega
        obtain ⟨h1, h2, h3⟩ := hr.maker (Nat.le_refl _) (List.getElem?_eq_getElem hlt)
        exact .inr (.inr ⟨_, hall _ h1, h1, by omega, by omega⟩)
  have hsim : Sim cx.glob E (s ops.size).heap w := by
    refine ⟨hr.leGB hS0.le (Nat.le_refl _), ?_, ?_, ?_, hS0.gok⟩
    · intro k o hk
      obtain ⟨q, hq, hc⟩ := cur k o hk
      exact (inv.ob k o q hc E (fun _ _ => rfl)).grow (hr.mono hq (Nat.le_refl _))
    · intro k k' o o' hne hk hk' hs hs'
      obtain ⟨q, _, c1⟩ := cur k o hk
      obtain ⟨q', _, c2⟩ := cur k' o' hk'
      exact inv.sep k k' o o' q q' hne c1 c2 hs hs'
    · intro id hid; rw [inv.agr id (.inr hid)]; exact hS0.glo id hid
  have hle := hr.leGB hS0.le (Nat.le_refl _)
  have hD := hr.dirty (q := ops.size) (Nat.le_refl _)
  refine ⟨⟨hsim, fun t => inv.env t _ (Nat.le_refl _) (fun i o hi _ => ?_) E (fun _ _ => rfl), inv.size⟩, hsim, hr.n0 (Nat.le_refl _), inv.agr, inv.os, inv.tape, inv.out, inv.hsz, ?_, ?_, ?_, hD.1, hgen, ?_⟩
  · have hi' : i < ops.size := (Array.getElem?_eq_some_iff.1 hi).1
    exact ⟨fun _ => hall i hi', fun _ => hi'⟩
  · intro b hb hT
    refine inv.frame b hb (fun i id hi hil hid hlv => hT id (hD.2 i hil id hid) ?_ hlv)
    obtain ⟨o, ho, _⟩ := hlv; exact (List.getElem?_eq_some_iff.1 ho).1
  · rintro k h1 h2 ⟨o, ho, hs⟩
    have hk : k < GB := by omega
    obtain ⟨q, _, c⟩ := cur k o (by rw [lookO_lt hk]; exact ho)
    rcases inv.orig k o q c hk hs with ⟨h3, _⟩ | ⟨_, h3 | ⟨i, d, h3, h4, h5, h6, h7⟩⟩
    · omega
    · exact .inl h3
    · exact .inr ⟨d, hD.2 i h4 d h5, by obtain ⟨o, ho, _⟩ := h6; exact (List.getElem?_eq_some_iff.1 ho).1, h6, h7⟩
  · intro k hk hd
    have := hr.same (p := 0) (k := k) (by rw [hr.s0]; exact hk) (Nat.zero_le _) (Nat.le_refl _) (fun i _ hi hx => hd (hD.2 i hi k hx))
    rw [hr.s0] at this; exact this
  · have key : ∀ k, k < st.heap.length → ∀ o, (s ops.size).heap[k]? = some o → solid0 E k o → live0 E0 st.heap k ∧ (solid E k o → live E0 st.heap k) := by
      intro k hk o ho hs
      have hkg : k < GB := by have := hS0.le; omega
      obtain ⟨q, _, c⟩ := cur k o (by rw [lookO_lt hkg]; exact ho)
      rcases inv.orig k o q c hkg hs with ⟨_, h3⟩ | ⟨h3, _⟩
      · exact h3
      · omega
    exact fun k hk => ⟨fun ⟨o, ho, hs⟩ => (key k hk o ho hs.to0).2 hs, fun ⟨o, ho, hs⟩ => (key k hk o ho hs).1⟩
theorem Inv.first (hr : Run cx pm P ops st s s' m) {E0 : Emb} {a0 : Act} {w0 : World} (h : StR cx E0 st a0 w0) : Inv cx ops st s s' E0 a0 w0 (fun _ => False) E0 a0 w0 := by
  have ok0 : ∀ id, okS ops st s (fun _ => False) id → okId st.heap.length id := by
    rintro id (h | h | ⟨_, h, _⟩)
    · exact .inl h
    · exact .inr h
    · exact h.elim
  have cur : ∀ k o q, Cur cx ops st s s' (fun _ => False) k o q → lookO cx.glob st.heap k = some o ∧ st.heap.length ≤ (s q).heap.length := by
    rintro k o q (⟨h1, h2, rfl⟩ | ⟨h1, h2, h3, h4, h5⟩)
    · exact ⟨by rw [lookO_ge h1]; exact h2, hr.n0 (Nat.zero_le _)⟩
    · have hk : k < st.heap.length := by
        rcases h4 with h4 | h4 | ⟨_, h4, _⟩
        · exact h4
        · omega
        · exact h4.elim
      have := hr.same (p := 0) (k := k) (by rw [hr.s0]; exact hk) (Nat.zero_le _) h2 (fun i _ hi hx => (h5 i (by omega) hx (Nat.lt_of_lt_of_le hk (hr.n0 (by omega)))).1 hi)
      rw [hr.s0, h3] at this
      exact ⟨by rw [lookO_lt h1]; exact this.symm, hr.n0 h2⟩
  refine ⟨fun _ _ => rfl, h.size, rfl, rfl, rfl, rfl, Nat.le_refl _, fun _ _ _ => rfl, ?_, ?_, ?_, ?_⟩
  · intro k o q hc E' hE'
    obtain ⟨h1, h2⟩ := cur k o q hc
    refine (h.sim.ob k o h1).step ?_ (fun id hid => hE' id ?_) h2 (fun _ => rfl)
    · exact hE' k (by rcases lookO_ok h1 with h | h; exact .inl h; exact .inr (.inl h))
    · rcases hid with h | h; exact .inl h; exact .inr (.inl h)
  · intro k k' o o' q q' hne c1 c2 hs hs'
    exact h.sim.sep k k' o o' hne (cur k o q c1).1 (cur k' o' q' c2).1 hs hs'
  · intro k o q c hk hs
    have := (cur k o q c).1
    rw [lookO_lt hk] at this
    exact .inl ⟨(List.getElem?_eq_some_iff.1 this).1, ⟨o, this, hs⟩, fun h => ⟨o, this, h⟩⟩
  · intro t q hq hcomp E' hE'
    have go : ∀ p, p ≤ q → VR E' (s p).heap.length (getE (s p).env t) (a0.tmps.getD t undef) := by
      intro p
      induction p with
      | zero =>
        intro _
        rw [hr.s0]
        exact (h.env t).mono (fun id hid => hE' id (by rcases hid with h | h; exact .inl h; exact .inr (.inl h))) (Nat.le_refl _)
      | succ p ih =>
        intro hp
        have hpl : p < ops.size := by omega
        have ihp := (ih (by omega)).mono (E' := E') (fun _ _ => rfl) (hr.lenS hpl)
        have hne : ops[p].dst ≠ some t := fun hd => (hcomp p _ (by simp [hpl]) hd).1 (by omega)
        rcases (hr.step' hpl).env1 hne with h5 | h5
        · rw [h5]; exact ihp
        · rw [h5]; exact .any _
    exact go q (Nat.le_refl _)
end
end Go.Proofs.YtlflclfhldghbaaGreatDoor.Ls
end
section
namespace Go.Proofs.YtlflclfhldghbaaGreatDoor.Ls
open Go
section
variable {T : TypeId → VS} {cx : Cx T} {pm : Bool} {P : List Nat} {ops : Array Oper} {st : St T} {s s' : Nat → St T} {m : Nat → List Nat}
def left (n : Nat) (listed : Array Bool) : Nat := ((List.range n).filter fun j => !listed.getD j false).length
theorem left_set {n i : Nat} {listed : Array Bool} (hi : i < n) (hs : listed.size = n) (h : listed.getD i false = false) : left n (listed.setIfInBounds i true) < left n listed := by
  have key : ∀ (l : List Nat), i ∈ l → l.Nodup → (l.filter fun j => !(listed.setIfInBounds i true).getD j false).length < (l.filter fun j => !listed.getD j false).length := by
    have other : ∀ j, j ≠ i → (listed.setIfInBounds i true).getD j false = listed.getD j false := by
      intro j hj
      simp [Array.getD_eq_getD_getElem?, Array.getElem?_setIfInBounds_ne (Ne.symm hj)]
    have self : (listed.setIfInBounds i true).getD i false = true := by
      simp [Array.getD_eq_getD_getElem?, hs, hi]
    intro l
    induction l with
    | nil => intro h; cases h
    | cons x r ih =>
      intro hm hn
      simp only [List.nodup_cons] at hn
      by_cases hx : x = i
      · subst hx
        have e : (r.filter fun j => !(listed.setIfInBounds x true).getD j false) = (r.filter fun j => !listed.getD j false) := by
          apply List.filter_congr
          intro j hj
          rw [other j (fun e => hn.1 (e ▸ hj))]
        simp only [List.filter_cons, self, h, e]
        simp
      · have hm' : i ∈ r := by
          rcases List.mem_cons.1 hm with h | h
          · exact absurd h.symm hx
          · exact h
        have := ih hm' hn.2
        simp only [List.filter_cons, other x hx]
        split
        · simp only [List.length_cons]; omega
        · exact this
  exact key _ (List.mem_range.2 hi) List.nodup_range
theorem rgDrawB (hm : cx.P.follows .mixedOrders = true) (hC : CallOK cx) {id : Nat} {ops : Array Oper} {st : St T} {out : RgOut T} (hpA : (opsDrawB cx ops st).pick = some out) (hok : out.state.ok = true)
    {E : Emb} {a : Act} {w : World} (hR : StR cx E st a w) {Q : Exit → Act → World → Prop} (hK : RgK cx E st a w (Q .normal) Q out) : (Code.region id ops true).wp cx.P Q a w := by
  obtain ⟨pm, P, hdr, hp⟩ := drawB hpA
  obtain ⟨s, s', mm, e1, e2, e3, e4⟩ := run_exists _ _ _ _ _ hp
  rw [Nat.zero_add, Array.length_toList] at e3
  have hr : Run cx pm P ops st s s' mm := ⟨e1, e2, fun k o hk => by
    have := e4 k o (by simpa using hk)
    rw [Nat.zero_add] at this; exact this⟩
  have hf := drawOk_facts hdr
  subst e3
  have hoks : ∀ k, k ≤ ops.size → (s (ops.size - k)).ok = true := by
    intro k
    induction k with
    | zero => intro _; exact hok
    | succ k ih =>
      intro hk
      have := ih (by omega)
      have d := hr.step' (k := ops.size - (k + 1)) (by omega)
      rw [show ops.size - k = ops.size - (k + 1) + 1 by omega, d.st1] at this
      have hk := oneOp_ok (out := .done (s' (ops.size - (k + 1)))) d.run this
      exact hk
  have hok' : ∀ i, i < ops.size → (s' i).ok = true := by
    intro i hi
    have := hoks (ops.size - (i + 1)) (by omega)
    have d := hr.step' hi
    rw [show ops.size - (ops.size - (i + 1)) = i + 1 by omega, d.st1] at this
    exact this
  have hgen : (s ops.size).gen = st.gen := (opsDraw_lvl _ _ _ _ _ hp hok).2.1
  have hR0 : StR cx E st a { w with drawn := w.drawn + 1 } := ⟨hR.sim.of_heap rfl, hR.env, hR.size⟩
  have main : ∀ (fuel : Nat) (listed : Array Bool) (E1 : Emb) (a1 : Act) (w1 : World), listed.size = ops.size → left ops.size listed ≤ fuel → closedS ops (fun j => listed.getD j false = true) →
      Inv cx ops st s s' E a { w with drawn := w.drawn + 1 } (fun j => listed.getD j false = true) E1 a1 w1 → wpAny cx.P .any ops Q fuel listed a1 w1 := by
    intro fuel
    induction fuel with
    | zero =>
      intro listed E1 a1 w1 hs hl hc inv
      have hall : ∀ i, i < ops.size → listed.getD i false = true := by
        intro i hi
        cases hb : listed.getD i false with
        | true => rfl
        | false => have := left_set hi hs hb; omega
      refine ⟨?_, ?_⟩
      · apply List.eq_nil_iff_forall_not_mem.2
        intro i hi
        obtain ⟨h1, o, h2, _⟩ := mem_ready.1 hi
        have hil : i < ops.size := (Array.getElem?_eq_some_iff.1 h2).1
        have := hall i hil
        rw [getD_both h1] at this; cases this
      · obtain ⟨f1, f2⟩ := inv.last hr hR0.sim hgen hall (wS := w)
        exact hK a1 w1 E1 inv.defers f1 ⟨f2.sim, f2.len, f2.agr, f2.os, f2.tape, f2.out, f2.size, f2.frame, f2.fresh, f2.kept, f2.mono, f2.gen, f2.dead⟩
    | succ fuel ih =>
      intro listed E1 a1 w1 hs hl hc inv
      refine ⟨fun hnil => ?_, fun i hi => ?_⟩
      · have hall : ∀ i, i < ops.size → listed.getD i false = true := by
          intro i
          induction i using Nat.strongRecOn with
          | _ i ihi =>
            intro hi
            cases hb : listed.getD i false with
            | true => rfl
            | false =>
              exfalso
              have : i ∈ Region.ready .any ops listed := by
                rw [mem_ready]
                refine ⟨getD_in (by omega) hb, ops[i], by simp [hi], fun e he hbd => ?_⟩
                have hlt := hf.edges i ops[i] (by simp [hi]) e (by simpa using he) hbd
                exact ihi e.on hlt (by omega)
              rw [hnil] at this; cases this
        obtain ⟨f1, f2⟩ := inv.last hr hR0.sim hgen hall (wS := w)
        exact hK a1 w1 E1 inv.defers f1 ⟨f2.sim, f2.len, f2.agr, f2.os, f2.tape, f2.out, f2.size, f2.frame, f2.fresh, f2.kept, f2.mono, f2.gen, f2.dead⟩
      · obtain ⟨h1, o, h2, h3⟩ := mem_ready.1 hi
        have hil : i < ops.size := (Array.getElem?_eq_some_iff.1 h2).1
        have hrd : Ready ops (fun j => listed.getD j false = true) i := ⟨hil, by rw [getD_both h1]; simp, fun o' ho' e he hb => by
          rw [h2] at ho'; cases ho'; exact h3 e (by simpa using he) hb⟩
        have hio : ops[i]? = some ops[i]! := by simp [hil]
        have d := hr.step i ops[i]! hio
        have hstr := inv.str hr hf hR0.sim hc hrd
        obtain ⟨_, _, h4⟩ := oneOp_sound hstr hC (ops := ops) hio d.run (hok' i hil)
        have h5 := h4 (fun a2 w2 => a2.defers = a1.defers ∧ ∃ E2, StR cx E2 (s' i) a2 w2 ∧ Stp cx.glob E1 _ w1 E2 (s' i) w2) Q (fun a2 w2 E2 hd hr2 hs2 => ⟨hd, E2, hr2, hs2⟩)
        refine wpOp_mono (fun a2 w2 hh => ?_) (wpOp_dst hio h5)
        obtain ⟨⟨hd, E2, hr2, hs2⟩, hput⟩ := hh
        obtain ⟨E3, inv3⟩ := inv.step hr hf hR0.sim hc hrd rfl rfl hd hr2 hs2 hput
        have hset : (fun j => (listed.setIfInBounds i true).getD j false = true) = (fun j => listed.getD j false = true ∨ j = i) := by
          funext j
          apply propext
          by_cases hj : j = i
          · subst hj
            have : (listed.setIfInBounds j true).getD j false = true := by simp [Array.getD_eq_getD_getElem?, hs, hil]
            simp [this]
          · have : (listed.setIfInBounds i true).getD j false = listed.getD j false := by simp [Array.getD_eq_getD_getElem?, Array.getElem?_setIfInBounds_ne (Ne.symm hj)]
            rw [this]; simp [hj]
        refine ih _ E3 a2 w2 (by simp [hs]) (by have := left_set hil hs (getD_both h1); omega) ?_ (by rw [hset]; exact inv3)
        rw [hset]
        intro j o' hj ho' e he hb
        rcases hj with hj | rfl
        · exact .inl (hc j o' hj ho' e he hb)
        · exact .inl (hrd.all o' ho' e he hb)
  refine wp_region_any hm (main _ _ E a _ (by simp) ?_ ?_ ?_)
  · unfold left
    exact Nat.le_trans (List.length_filter_le _ _) (by simp)
  · intro j o hj
    exfalso
    rw [getD_replicate_false] at hj; cases hj
  · have : (fun j => (Array.replicate ops.size false).getD j false = true) = fun _ => False := by
      funext j; apply propext; rw [getD_replicate_false]; simp
    rw [this]
    exact Inv.first hr hR0
theorem allB_get {b : Array Nat} {n : Nat} : ∀ (k : Nat), allB b n k = true → ∀ j, j < k → ordB b n j = true
  | 0, _, j, hj => by omega
  | k + 1, h, j, hj => by
    simp only [allB, Bool.and_eq_true] at h
    by_cases e : j = k
    · subst e; exact h.1
    · exact allB_get k h.2 j (by omega)
theorem rgDrawL (hm : cx.P.follows .mixedOrders = true) (hC : CallOK cx) {id : Nat} {ops : Array Oper} {st : St T} {out : RgOut T} {l : List Oper} {o : Oper} {st1 : St T} (hops : ops.toList = l ++ [o]) (hog : o.guard = none)
    (hall : allB (Region.before ⟨l ++ [nopOf o]⟩) l.length l.length = true) (hpB : (opsDrawB cx ⟨l ++ [nopOf o]⟩ st).pick = some (.done st1)) (hpl : (oneOp cx ops.toList o st1).pick = some out) (hok : out.state.ok = true)
    {E : Emb} {a : Act} {w : World} (hR : StR cx E st a w) {Q : Exit → Act → World → Prop} (hK : RgK cx E st a w (Q .normal) Q out) : (Code.region id ops true).wp cx.P Q a w := by
  obtain ⟨pm, P, hdr, hp⟩ := drawB hpB
  obtain ⟨M, hMe⟩ : ∃ M : Array Oper, M = ⟨l ++ [nopOf o]⟩ := ⟨_, rfl⟩
  rw [← hMe] at hall hdr hp
  have hMl : M.toList = l ++ [nopOf o] := by rw [hMe]
  have hMs : M.size = l.length + 1 := by rw [← Array.length_toList, hMl]; simp
  have hos : ops.size = l.length + 1 := by rw [← Array.length_toList, hops]; simp
  have hon : ops[l.length]? = some o := by rw [← Array.getElem?_toList, hops]; simp
  have hMn : M[l.length]? = some (nopOf o) := by rw [← Array.getElem?_toList, hMl]; simp
  have hlt : ∀ i, i < l.length → M[i]? = ops[i]? := by
    intro i hi
    rw [← Array.getElem?_toList, ← Array.getElem?_toList, hMl, hops, List.getElem?_append_left hi, List.getElem?_append_left hi]
  have haft : ∀ (i : Nat) (x : Oper), ops[i]? = some x → ∃ y, M[i]? = some y ∧ y.after = x.after := by
    intro i x hx
    have hi : i < ops.size := (Array.getElem?_eq_some_iff.1 hx).1
    by_cases e : i = l.length
    · subst e; rw [hon] at hx; cases hx; exact ⟨_, hMn, rfl⟩
    · exact ⟨x, by rw [hlt i (by omega)]; exact hx, rfl⟩
  obtain ⟨s, s', mm, e1, e2, e3, e4⟩ := run_exists _ _ _ _ _ hp
  rw [Nat.zero_add, Array.length_toList] at e3
  have hst1 : st1 = s M.size := by cases e3; rfl
  subst hst1
  have hr : Run cx pm P M st s s' mm := ⟨e1, e2, fun k o hk => by
    have := e4 k o (by simpa using hk)
    rw [Nat.zero_add] at this; exact this⟩
  have hf := drawOk_facts hdr
  have hoks : ∀ k, k ≤ M.size → (s (M.size - k)).ok = true := by
    intro k
    induction k with
    | zero => intro _; exact oneOp_ok hpl hok
    | succ k ih =>
      intro hk
      have := ih (by omega)
      have d := hr.step' (k := M.size - (k + 1)) (by omega)
      rw [show M.size - k = M.size - (k + 1) + 1 by omega, d.st1] at this
      have hk := oneOp_ok (out := .done (s' (M.size - (k + 1)))) d.run this
      exact hk
  have hok' : ∀ i, i < M.size → (s' i).ok = true := by
    intro i hi
    have := hoks (M.size - (i + 1)) (by omega)
    have d := hr.step' hi
    rw [show M.size - (M.size - (i + 1)) = i + 1 by omega, d.st1] at this
    exact this
  have hgen : (s M.size).gen = st.gen := (opsDraw_lvl _ _ _ _ _ hp (oneOp_ok hpl hok)).2.1
  have hR0 : StR cx E st a { w with drawn := w.drawn + 1 } := ⟨hR.sim.of_heap rfl, hR.env, hR.size⟩
  have hsetS : ∀ (listed : Array Bool) (i : Nat), listed.size = ops.size → i < ops.size → (fun j => (listed.setIfInBounds i true).getD j false = true) = (fun j => listed.getD j false = true ∨ j = i) := by
    intro listed i hs hil
    funext j
    apply propext
    by_cases hj : j = i
    · subst hj
      have : (listed.setIfInBounds j true).getD j false = true := by simp [Array.getD_eq_getD_getElem?, hs, hil]
      simp [this]
    · have : (listed.setIfInBounds i true).getD j false = listed.getD j false := by simp [Array.getD_eq_getD_getElem?, Array.getElem?_setIfInBounds_ne (Ne.symm hj)]
      rw [this]; simp [hj]
  have main : ∀ (fuel : Nat) (listed : Array Bool) (E1 : Emb) (a1 : Act) (w1 : World), listed.size = ops.size → left ops.size listed ≤ fuel → listed.getD l.length false = false → closedS M (fun j => listed.getD j false = true) →
      Inv cx M st s s' E a { w with drawn := w.drawn + 1 } (fun j => listed.getD j false = true) E1 a1 w1 → wpAny cx.P .any ops Q fuel listed a1 w1 := by
    intro fuel
    induction fuel with
    | zero =>
      intro listed E1 a1 w1 hs hl hnot hc inv
      have := left_set (n := ops.size) (i := l.length) (by omega) hs hnot
      omega
    | succ fuel ih =>
      intro listed E1 a1 w1 hs hl hnot hc inv
      refine ⟨fun hnil => ?_, fun i hi => ?_⟩
      · exfalso
        have hal : ∀ i, i < ops.size → listed.getD i false = true := by
          intro i
          induction i using Nat.strongRecOn with
          | _ i ihi =>
            intro hi
            cases hb : listed.getD i false with
            | true => rfl
            | false =>
              exfalso
              have : i ∈ Region.ready .any ops listed := by
                rw [mem_ready]
                refine ⟨getD_in (by omega) hb, ops[i], by simp [hi], fun e he hbd => ?_⟩
                obtain ⟨y, hy, hya⟩ := haft i ops[i] (by simp [hi])
                have hlt := hf.edges i y hy e (by rw [hya]; simpa using he) hbd
                exact ihi e.on hlt (by omega)
              rw [hnil] at this; cases this
        have := hal l.length (by omega)
        rw [hnot] at this; cases this
      · obtain ⟨h1, x, h2, h3⟩ := mem_ready.1 hi
        have hil : i < ops.size := (Array.getElem?_eq_some_iff.1 h2).1
        obtain ⟨y, hy, hya⟩ := haft i x h2
        have hrd : Ready M (fun j => listed.getD j false = true) i := ⟨by omega, by rw [getD_both h1]; simp, fun o' ho' e he hb => by
          rw [hy] at ho'; cases ho'; exact h3 e (by rw [hya] at he; simpa using he) hb⟩
        have hio : M[i]? = some M[i]! := by simp [show i < M.size by omega]
        have d := hr.step i M[i]! hio
        have hstr := inv.str hr hf hR0.sim hc hrd
        obtain ⟨_, _, h4⟩ := oneOp_sound hstr hC (ops := M) hio d.run (hok' i (by omega))
        have hclosed : closedS M (fun j => listed.getD j false = true ∨ j = i) := by
          intro j o' hj ho' e he hb
          rcases hj with hj | rfl
          · exact .inl (hc j o' hj ho' e he hb)
          · exact .inl (hrd.all o' ho' e he hb)
        by_cases hin : i = l.length
        · subst hin
          have h5 := h4 (fun a2 w2 => a2.defers = a1.defers ∧ ∃ E2, StR cx E2 (s' l.length) a2 w2 ∧ Stp cx.glob E1 _ w1 E2 (s' l.length) w2) (fun _ _ _ => False) (fun a2 w2 E2 hd hr2 hs2 => ⟨hd, E2, hr2, hs2⟩)
          have h6 : ∀ K : Act → World → Prop, wpOp cx.P M (fun _ _ _ => False) l.length K a1 w1 → K a1 w1 := by
            intro K h5
            unfold wpOp at h5
            rw [hMn] at h5
            have hw : Region.wanted (nopOf o) (yielded M a1.tmps) = true := by simp [Region.wanted, nopOf]
            simp only [hw, if_true] at h5
            rcases h5 with h5 | ⟨_, _, _, hF⟩
            · unfold Oper.wp at h5
              have he : (execOp a1.eval (nopOf o)).run cx.P w1 = .ok (.value (.bool true)) w1 := by simp [execOp, nopOf, Act.eval]
              rw [he, Oper.upon_value] at h5
              exact h5
            · exact hF.elim
          obtain ⟨hd, E2, hr2, hs2⟩ := h6 _ h5
          obtain ⟨E3, inv3⟩ := inv.step hr hf hR0.sim hc hrd rfl rfl hd hr2 hs2 (fun t ht => rfl)
          have hallS : ∀ j, j < M.size → (listed.getD j false = true ∨ j = l.length) := by
            intro j hj
            by_cases e : j = l.length
            · exact .inr e
            · exact .inl (before_in hc l.length j hrd.all (allB_get _ hall j (by omega)))
          obtain ⟨f1, f2⟩ := inv3.last hr hR0.sim hgen hallS (wS := w)
          obtain ⟨_, _, h7⟩ := oneOp_sound f1 hC (ops := ops) hon hpl hok
          refine h7 _ Q ?_
          have f2' : Stp cx.glob E st w E3 (s M.size) w1 := ⟨f2.sim, f2.len, f2.agr, f2.os, f2.tape, f2.out, f2.size, f2.frame, f2.fresh, f2.kept, f2.mono, f2.gen, f2.dead⟩
          cases out with
          | done st2 =>
            intro a' w' E' hd' hr' hs'
            have hq := hK a' w' E' (hd'.trans inv3.defers) hr' (f2'.trans hs')
            have hnone : ∀ i, i ∉ Region.ready .any ops (listed.setIfInBounds l.length true) := by
              intro i hi
              obtain ⟨g1, x, g2, _⟩ := mem_ready.1 hi
              have hil : i < ops.size := (Array.getElem?_eq_some_iff.1 g2).1
              have := hallS i (by omega)
              rw [show (listed.getD i false = true ∨ i = l.length) = ((fun j => (listed.setIfInBounds l.length true).getD j false = true) i) by rw [hsetS listed l.length hs (by omega)]] at this
              rw [getD_both g1] at this; cases this
            cases fuel with
            | zero => exact ⟨List.eq_nil_iff_forall_not_mem.2 hnone, hq⟩
            | succ fuel => exact ⟨fun _ => hq, fun i hi => absurd hi (hnone i)⟩
          | pan v st2 =>
            intro v' a' w' E' hd' hr' hv' hs'
            exact hK v' a' w' E' (hd'.trans inv3.defers) hr' hv' (f2'.trans hs')
        · have hi' : i < l.length := by omega
          have h5 := h4 (fun a2 w2 => a2.defers = a1.defers ∧ ∃ E2, StR cx E2 (s' i) a2 w2 ∧ Stp cx.glob E1 _ w1 E2 (s' i) w2) Q (fun a2 w2 E2 hd hr2 hs2 => ⟨hd, E2, hr2, hs2⟩)
          have h5 := wpOp_dst hio h5
          have h6 : ∀ K, wpOp cx.P M Q i K a1 w1 → wpOp cx.P ops Q i K a1 w1 := by
            intro K hK
            unfold wpOp at hK ⊢
            rw [hlt i hi', h2] at hK
            rw [h2]
            have hw : Region.wanted x (yielded M a1.tmps) = Region.wanted x (yielded ops a1.tmps) := by
              unfold Region.wanted
              split
              · rfl
              · rename_i j want hg
                by_cases hj : j < l.length
                · unfold yielded; rw [hlt j hj]
                · exfalso
                  have := hf.guards i x (by rw [hlt i hi']; exact h2) j want hg
                  omega
            simpa only [hw] using hK
          refine wpOp_mono (fun a2 w2 hh => ?_) (h6 _ h5)
          obtain ⟨⟨hd, E2, hr2, hs2⟩, hput⟩ := hh
          obtain ⟨E3, inv3⟩ := inv.step hr hf hR0.sim hc hrd rfl rfl hd hr2 hs2 hput
          have hset := hsetS listed i hs hil
          have hnot' : (listed.setIfInBounds i true).getD l.length false = false := by
            have : (listed.setIfInBounds i true).getD l.length false = listed.getD l.length false := by simp [Array.getD_eq_getD_getElem?, Array.getElem?_setIfInBounds_ne hin]
            rw [this]; exact hnot
          refine ih _ E3 a2 w2 (by simp [hs]) (by have := left_set hil hs (getD_both h1); omega) hnot' ?_ (by rw [hset]; exact inv3)
          rw [hset]; exact hclosed
  refine wp_region_any hm (main _ _ E a _ (by simp) ?_ ?_ ?_ ?_)
  · unfold left
    exact Nat.le_trans (List.length_filter_le _ _) (by simp)
  · exact getD_replicate_false _ _
  · intro j o' hj
    exfalso
    rw [getD_replicate_false] at hj; cases hj
  · have : (fun j => (Array.replicate ops.size false).getD j false = true) = fun _ => False := by
      funext j; apply propext; rw [getD_replicate_false]; simp
    rw [this]
    exact Inv.first hr hR0
theorem rgDraw (hm : cx.P.follows .mixedOrders = true) (hC : CallOK cx) : RgDraw cx := by
  intro id ops st out hpA hok E a w hR Q hK
  rcases drawA hpA with h | ⟨l, o, st1, h1, h2, h4, h5, h6⟩
  · exact rgDrawB hm hC h hok hR hK
  · exact rgDrawL hm hC h1 h2 h4 h5 h6 hok hR hK
end
end Go.Proofs.YtlflclfhldghbaaGreatDoor.Ls
end
section
namespace Go.Proofs.YtlflclfhldghbaaGreatDoor.Ls
open Go
section
variable {T : TypeId → VS}
structure Ent (T : TypeId → VS) where
  f : FuncId
  g : Sig
  F : g.args.ty → tysO T g.hp → Res T g
def there (P : Program) (f : FuncId) : Bool :=
  match P.funcs[f]? with
  | some fn => !(fn.name == "runtime.NumGoroutine") && !fn.body.isNone
  | none => false
def TblOK (P : Program) (glob : Nat → Option (Ob T)) : List (Ent T) → Prop
  | [] => True
  | e :: r => (there P e.f = true ∧ FOK P glob e.f e.g e.F) ∧ TblOK P glob r
end
end Go.Proofs.YtlflclfhldghbaaGreatDoor.Ls
end
section
namespace Go.Proofs.YtlflclfhldghbaaGreatDoor.Ls
open Go
noncomputable section
variable {T : TypeId → VS}
def keepsOf : List (Ob T) → List Eff
  | [] => []
  | _ :: r => .keep :: keepsOf r
def unrollT (cx : Cx T) (ef : List Eff) : Nat → List It → St T → Tr (Stop T)
  | 0, _, _ => .fail
  | k + 1, todo, st => (roundL cx ef todo st).bind fun s => match s with
    | .cut todo' st' => unrollT cx ef k todo' st'
    | s => .leaf s
def runU (cx : Cx T) (ef : List Eff) (k : Nat) (c : Code) (st : St T) : Tr (Stop T) :=
  (runC cx ef c st).bind fun s => match s with
    | .cut todo' st' => unrollT cx ef k todo' st'
    | s => .leaf s
def outH (H : List (Ob T)) (st : St T) : List (Ob T) := unmask st.dirty 0 H st.heap
def retOut (cx : Cx T) (fn : Func) (H : List (Ob T)) (st : St T) : Tr (CallOut T) :=
  match resultV cx st fn.results.toList with
  | some (vs, st) => .leaf (.ret (match vs with | [v] => v | vs => .tuple ⟨vs⟩) (outH H st) (belowN H.length st.dirty) st.ok)
  | none => .fail
def stopOut (cx : Cx T) (fn : Func) (H : List (Ob T)) : Stop T → Tr (CallOut T)
  | .ret st => retOut cx fn H st
  | .done st => retOut cx fn H st
  | .pan v st => .leaf (.pan v (outH H st) (belowN H.length st.dirty) st.ok)
  | _ => .fail
def stI (args : List Value) (H : List (Ob T)) : St T := { env := argEnv 0 args, heap := H, dirty := [], known := [], gen := 0, ok := true }
def inlC (cx : Cx T) (fn : Func) (k : Nat) (args : List Value) (H : List (Ob T)) : Tr (CallOut T) :=
  match fn.body with
  | some c => match Nat.ble args.length cx.n with
    | true => (runU cx (keepsOf H) k c (stI args H)).bind (stopOut cx fn H)
    | false => .fail
  | none => .fail
structure Inl where
  f : FuncId
  k : Nat
  nojoin : List Nat
  closed : List Nat
def findI : List Inl → FuncId → Option Inl
  | [], _ => none
  | e :: r, f => match Nat.beq e.f f with | true => some e | false => findI r f
def Cx.inn (cx : Cx T) (n : Nat) (e : Inl) (call : FuncId → List Value → List (Ob T) → Tr (CallOut T)) : Cx T :=
  { cx with call := call, n := n, nojoin := e.nojoin, closed := e.closed, cuts := [], joins := [], stops := [] }
def inlThere (P : Program) : List Inl → Bool
  | [] => true
  | e :: r => there P e.f && inlThere P r
end
section
variable {T : TypeId → VS} {cx : Cx T}
theorem keepsOf_len : ∀ H : List (Ob T), (keepsOf H).length = H.length
  | [] => rfl
  | _ :: r => by simp [keepsOf, keepsOf_len r]
theorem keepsOf_get : ∀ (H : List (Ob T)) (p : Nat), p < H.length → (keepsOf H)[p]? = some .keep
  | [], p, h => by simp at h
  | _ :: r, 0, h => rfl
  | _ :: r, p + 1, h => by simp only [keepsOf, List.getElem?_cons_succ]; exact keepsOf_get r p (by simpa using h)
theorem keepsOf_stays (H : List (Ob T)) (p : Nat) : stays (keepsOf H) p ↔ p < H.length := by
  constructor
  · intro h; have := stays_lt h; rwa [keepsOf_len] at this
  · intro h; exact ⟨.keep, keepsOf_get H p h, by simp⟩
def StopC (cx : Cx T) (ef : List Eff) (E0 : Emb) (w0 : World) (H0 : List (Ob T)) (G : List Nat) (ds : List Deferred) (Q : Exit → Act → World → Prop) : Stop T → Prop
  | .done st' => ∀ a' w' E', a'.defers = ds → CR cx ef E0 w0 H0 G E' st' a' w' → Q .normal a' w'
  | .exit id st' => ∀ a' w' E', a'.defers = ds → CR cx ef E0 w0 H0 G E' st' a' w' → Q (.exit id) a' w'
  | .ret st' => ∀ a' w' E', a'.defers = ds → CR cx ef E0 w0 H0 G E' st' a' w' → Q .ret a' w'
  | .pan v st' => ∀ v' a' w' E', a'.defers = ds → CR cx ef E0 w0 H0 G E' st' a' w' → VR E' st'.heap.length v v' → Q (.panic [{ v := v', recovered := false }]) a' w'
  | .cut todo st' => ∀ a' w' E', a'.defers = ds → CR cx ef E0 w0 H0 G E' st' a' w' → postK cx.P todo Q .normal a' w'
theorem StopC.toK {ef : List Eff} {E0 : Emb} {w0 : World} {H0 : List (Ob T)} {G : List Nat} {ds : List Deferred} {Q : Exit → Act → World → Prop} {s : Stop T} (h : StopC cx ef E0 w0 H0 G ds Q s) {E : Emb} {st : St T} {a : Act} {w : World} (hd : a.defers = ds) : StopK cx ef E0 w0 H0 G E st a w Q s := by
  cases s with
  | done st' => exact fun a' w' E' hd' hc _ => h a' w' E' (hd'.trans hd) hc
  | exit id st' => exact fun a' w' E' hd' hc _ => h a' w' E' (hd'.trans hd) hc
  | ret st' => exact fun a' w' E' hd' hc => h a' w' E' (hd'.trans hd) hc
  | pan v st' => exact fun v' a' w' E' hd' hc hv => h v' a' w' E' (hd'.trans hd) hc hv
  | cut l st' => exact fun a' w' E' hd' hc => h a' w' E' (hd'.trans hd) hc
theorem roundL_ok (hDL : RgDrawLvl cx) (ef : List Eff) {todo : List It} {st : St T} {s : Stop T} (h : (roundL cx ef todo st).pick = some s) (hok : s.state.ok = true) : st.ok = true := by
  unfold roundL at h
  split at h
  · obtain ⟨s1, h1, h2⟩ := pick_bind _ _ _ h
    have k := resume_lvl hDL ef _ s1 s h2 hok
    exact (runC_lvl hDL ef _ st s1 h1 k.1).1
  · obtain ⟨s1, h1, h2⟩ := pick_bind _ _ _ h
    have k := resume_lvl hDL ef _ s1 s h2 hok
    exact (runC_lvl hDL ef _ st s1 h1 k.1).1
  · exact (pick_fail h).elim
theorem unrollT_ok (hDL : RgDrawLvl cx) (ef : List Eff) : ∀ (k : Nat) {todo : List It} {st : St T} {s : Stop T}, (unrollT cx ef k todo st).pick = some s → s.state.ok = true → st.ok = true
  | 0, todo, st, s, h, hok => (pick_fail h).elim
  | k + 1, todo, st, s, h, hok => by
    simp only [unrollT] at h
    obtain ⟨s1, h1, h2⟩ := pick_bind _ _ _ h
    refine roundL_ok hDL ef h1 ?_
    split at h2
    · exact unrollT_ok hDL ef k h2 hok
    · have := pick_leaf h2; subst this; exact hok
theorem unrollT_sound (hC : CallOK cx) (hD : RgDraw cx) (hDL : RgDrawLvl cx) (ef : List Eff) {E0 : Emb} {w0 : World} {H0 : List (Ob T)} {G : List Nat} {ds : List Deferred} {Q : Exit → Act → World → Prop} :
    ∀ (k : Nat) {todo : List It} {st : St T} {s : Stop T}, (unrollT cx ef k todo st).pick = some s → s.state.ok = true → StopC cx ef E0 w0 H0 G ds Q s →
    ∀ (E : Emb) (a : Act) (w : World), CR cx ef E0 w0 H0 G E st a w → a.defers = ds → postK cx.P todo Q .normal a w
  | 0, todo, st, s, h, hok, hS => (pick_fail h).elim
  | k + 1, todo, st, s, h, hok, hS => by
    intro E a w hc hd
    simp only [unrollT] at h
    obtain ⟨s1, h1, h2⟩ := pick_bind _ _ _ h
    split at h2
    · rename_i todo' st'
      have k1 := unrollT_ok hDL ef k h2 hok
      have hcut : StopC cx ef E0 w0 H0 G ds Q (.cut todo' st') := fun a' w' E' hd' hc' => unrollT_sound hC hD hDL ef k h2 hok hS E' a' w' hc' hd'
      exact roundL_sound hC hD hDL ef hc h1 k1 (hcut.toK hd)
    · have := pick_leaf h2; subst this
      exact roundL_sound hC hD hDL ef hc h1 hok (hS.toK hd)
theorem runU_ok (hDL : RgDrawLvl cx) (ef : List Eff) {k : Nat} {c : Code} {st : St T} {s : Stop T} (h : (runU cx ef k c st).pick = some s) (hok : s.state.ok = true) : st.ok = true := by
  unfold runU at h
  obtain ⟨s1, h1, h2⟩ := pick_bind _ _ _ h
  refine (runC_lvl hDL ef c st s1 h1 ?_).1
  split at h2
  · exact unrollT_ok hDL ef k h2 hok
  · have := pick_leaf h2; subst this; exact hok
theorem runU_sound (hC : CallOK cx) (hD : RgDraw cx) (hDL : RgDrawLvl cx) (ef : List Eff) {E0 : Emb} {w0 : World} {H0 : List (Ob T)} {G : List Nat} {Q : Exit → Act → World → Prop}
    {k : Nat} {c : Code} {st : St T} {s : Stop T} (h : (runU cx ef k c st).pick = some s) (hok : s.state.ok = true)
    {E : Emb} {a : Act} {w : World} (hc : CR cx ef E0 w0 H0 G E st a w) (hS : StopC cx ef E0 w0 H0 G a.defers Q s) : c.wp cx.P Q a w := by
  unfold runU at h
  obtain ⟨s1, h1, h2⟩ := pick_bind _ _ _ h
  split at h2
  · rename_i todo' st'
    have k1 := unrollT_ok hDL ef k h2 hok
    have hcut : StopC cx ef E0 w0 H0 G a.defers Q (.cut todo' st') := fun a' w' E' hd' hc' => unrollT_sound hC hD hDL ef k h2 hok hS E' a' w' hc' hd'
    exact runC_sound hC hD hDL ef c hc h1 k1 (hcut.toK rfl)
  · have := pick_leaf h2; subst this
    exact runC_sound hC hD hDL ef c hc h1 hok (hS.toK rfl)
theorem CR.begin {E : Emb} {w : World} {H : List (Ob T)} (hS : Sim cx.glob E H w) {env : List (Nat × Value)} {a : Act} (hV : EnvR E H.length env a) (hsz : a.tmps.size = cx.n) {st : St T} (h1 : st.heap = H) (h2 : st.env = env) :
    CR cx (keepsOf H) E w H [] E st a w := by
  subst h1; subst h2
  refine ⟨⟨hS, hV, hsz⟩, fun _ _ => rfl, fun _ _ _ => rfl, ?_, rfl, rfl, rfl, Nat.le_refl _, ?_, ?_, fun _ _ => ⟨fun h => h, fun h => h⟩, fun _ _ => rfl⟩
  · intro id hid hst hlv; exact absurd ((keepsOf_stays _ id).2 hid) hst
  · rw [keepsOf_len]; exact hS.le
  · intro p hp; exact (keepsOf_stays _ p).1 hp
theorem CR.stp {E : Emb} {w : World} {H : List (Ob T)} (hS : Sim cx.glob E H w) {E' : Emb} {st : St T} {a : Act} {w' : World} (hc : CR cx (keepsOf H) E w H [] E' st a w') :
    H.length ≤ st.heap.length ∧ Stp cx.glob E ⟨[], H, [], [], 0, true⟩ w E' ⟨[], outH H st, belowN H.length st.dirty, [], 0, true⟩ w' := by
  have hle : H.length ≤ st.heap.length := by
    cases hn : H.length with
    | zero => omega
    | succ n =>
      have := hc.pin n ((keepsOf_stays H n).2 (by omega))
      omega
  have hlen : (outH H st).length = st.heap.length := unmask_len _ _ _ hle
  have hget : ∀ j : Nat, (outH H st)[j]? = if j < H.length ∧ j ∉ st.dirty then H[j]? else st.heap[j]? := by
    intro j
    have := unmask_get (D := st.dirty) st.heap H 0 j hle
    rwa [Nat.zero_add] at this
  have hpar : ∀ p, p < H.length → E' p = E p := fun p hp => hc.par p ((keepsOf_stays H p).2 hp)
  have hagr : ∀ id, okId H.length id → E' id = E id := fun id h => h.elim (hpar id) (hc.gl id)
  have hS' := hc.str.sim
  have hGB : H.length ≤ GB := hS.le
  have hfr : ∀ (id : Nat) (o : Ob T), id ∉ st.dirty → lookO cx.glob H id = some o → solid0 E id o → w'.heap[(E id).blk]? = w.heap[(E id).blk]? := by
    intro id o hid ho hs
    refine hc.frame _ ((hS.ob id o ho).lt hs) ?_
    intro p hp hq hlv he
    rw [keepsOf_len] at hp
    have hpd : p ∈ st.dirty := by
      rcases hq with hq | hq | hq
      · exact absurd ((keepsOf_stays H p).2 hp) hq
      · cases hq
      · exact hq
    obtain ⟨op, ho2, hs2⟩ := hlv
    exact hS.sep id p o op (fun e => hid (e ▸ hpd)) ho (by rw [lookO_lt (by omega)]; exact ho2) hs hs2 he.symm
  have hlook : ∀ (id : Nat) (o : Ob T), lookO cx.glob (outH H st) id = some o → (lookO cx.glob H id = some o ∧ (id < H.length ∧ id ∉ st.dirty ∨ GB ≤ id)) ∨ (id < GB ∧ st.heap[id]? = some o ∧ (id ∈ st.dirty ∨ H.length ≤ id)) := by
    intro id o h
    by_cases hg : GB ≤ id
    · rw [lookO_ge hg] at h; exact .inl ⟨by rw [lookO_ge hg]; exact h, .inr hg⟩
    · rw [lookO_lt (by omega), hget] at h
      split at h
      · rename_i h1; exact .inl ⟨by rw [lookO_lt (by omega)]; exact h, .inl h1⟩
      · rename_i h1
        refine .inr ⟨by omega, h, ?_⟩
        by_cases hd : id ∈ st.dirty
        · exact .inl hd
        · exact .inr (by by_cases hl : id < H.length; exact absurd ⟨hl, hd⟩ h1; omega)
  have hnew : ∀ (id : Nat) (o : Ob T), id < GB → st.heap[id]? = some o → (id ∈ st.dirty ∨ H.length ≤ id) → solid0 E' id o → w.heap.size ≤ (E' id).blk ∨ ∃ p, p < H.length ∧ p ∈ st.dirty ∧ (p = id ∨ H.length ≤ id ∧ live E H p) ∧ (live0 E H p ∧ (solid E' id o → live E H p)) ∧ (E' id).blk = (E p).blk := by
    intro id o hg ho hq hs
    by_cases hl : id < H.length
    · refine .inr ⟨id, hl, hq.elim (fun h => h) (fun h => by omega), .inl rfl, ⟨(hc.old id ((keepsOf_stays H id).2 hl)).2 ⟨o, ho, hs⟩, fun h => (hc.old id ((keepsOf_stays H id).2 hl)).1 ⟨o, ho, h⟩⟩, by rw [hpar id hl]⟩
    · rcases hc.loc id (List.getElem?_eq_some_iff.1 ho).1 (fun h => hl ((keepsOf_stays H id).1 h)) ⟨o, ho, hs⟩ with h | ⟨p, hp, hq, hlv, he⟩
      · exact .inl h
      · rw [keepsOf_len] at hp
        refine .inr ⟨p, hp, ?_, .inr ⟨by omega, hlv⟩, ⟨hlv.to0, fun _ => hlv⟩, he⟩
        rcases hq with hq | hq | hq
        · exact absurd ((keepsOf_stays H p).2 hp) hq
        · cases hq
        · exact hq
  have hsepm : ∀ (i j : Nat) (oi oj : Ob T), lookO cx.glob H i = some oi → (i < H.length ∧ i ∉ st.dirty ∨ GB ≤ i) → solid0 E i oi → j < GB → st.heap[j]? = some oj → (j ∈ st.dirty ∨ H.length ≤ j) → solid0 E' j oj → (solid E i oi ∨ solid E' j oj) → (E i).blk ≠ (E' j).blk := by
    intro i j oi oj hi hi2 si hj hoj hj2 sj hor
    rcases hnew j oj hj hoj hj2 sj with h | ⟨p, hp, hpd, _, ⟨⟨op, ho2, hs2⟩, hl⟩, he⟩
    · have := (hS.ob i oi hi).lt si; omega
    · rw [he]
      have hne : i ≠ p := by
        intro e
        subst e
        rcases hi2 with h | h
        · exact h.2 hpd
        · omega
      have hop : lookO cx.glob H p = some op := by rw [lookO_lt (by omega)]; exact ho2
      rcases hor with hor | hor
      · exact (hS.sep p i op oi hne.symm hop hi hs2 hor).symm
      · obtain ⟨op2, ho3, hs3⟩ := hl hor
        obtain rfl : op2 = op := Option.some.inj (ho3.symm.trans ho2)
        exact hS.sep i p oi op2 hne hi hop si hs3
  have hEi : ∀ (i : Nat), (i < H.length ∧ i ∉ st.dirty ∨ GB ≤ i) → E' i = E i := fun i h => hagr i (h.imp (fun h => h.1) (fun h => h))
  have hsim : Sim cx.glob E' (outH H st) w' := by
    refine ⟨by rw [hlen]; exact hS'.le, ?_, ?_, hS'.glo, hS'.gok⟩
    · intro id o h
      rw [hlen]
      rcases hlook id o h with ⟨h1, h2⟩ | ⟨h1, h2, h3⟩
      · by_cases hid : id ∈ st.dirty
        · rcases h2 with h2 | h2
          · exact absurd hid h2.2
          · exact hS'.ob id o (by rw [lookO_ge h2] at h1 ⊢; exact h1)
        · exact (hS.ob id o h1).step (hEi id h2) hagr hle (fun hs => hfr id o hid h1 hs)
      · exact hS'.ob id o (by rw [lookO_lt h1]; exact h2)
    · intro i j oi oj hij hi hj si sj
      rcases hlook i oi hi with ⟨i1, i2⟩ | ⟨i1, i2, i3⟩
      · have ei := hEi i i2
        have si' : solid0 E i oi := solid0_eq ei si
        rcases hlook j oj hj with ⟨j1, j2⟩ | ⟨j1, j2, j3⟩
        · have ej := hEi j j2
          rw [ei, ej]; exact hS.sep i j oi oj hij i1 j1 si' (solid_eq ej sj)
        · rw [ei]; exact hsepm i j oi oj i1 i2 si' j1 j2 j3 sj.to0 (.inr sj)
      · rcases hlook j oj hj with ⟨j1, j2⟩ | ⟨j1, j2, j3⟩
        · have ej := hEi j j2
          rw [ej]; exact (hsepm j i oj oi j1 j2 (solid_eq ej sj).to0 i1 i2 i3 si (.inl (solid_eq ej sj))).symm
        · exact hS'.sep i j oi oj hij (by rw [lookO_lt i1]; exact i2) (by rw [lookO_lt j1]; exact j2) si sj
  refine ⟨hle, hsim, by show H.length ≤ (outH H st).length; rw [hlen]; exact hle, hagr, hc.os, hc.tape, hc.out, hc.size, ?_, ?_, ?_, ?_, rfl, ?_⟩
  · intro b hb hD
    refine hc.frame b hb (fun p hp hq hlv => ?_)
    rw [keepsOf_len] at hp
    have hpd : p ∈ st.dirty := by
      rcases hq with hq | hq | hq
      · exact absurd ((keepsOf_stays H p).2 hp) hq
      · cases hq
      · exact hq
    exact hD p (belowN_mem hpd hp) hp hlv
  · intro id hid1 hid2 hlv
    obtain ⟨o, ho, hs⟩ := hlv
    have hid2 : id < (outH H st).length := hid2
    have hid1 : H.length ≤ id := hid1
    have ho : (outH H st)[id]? = some o := ho
    have hg : id < GB := by have := hS'.le; rw [hlen] at hid2; omega
    rw [hget, if_neg (by omega)] at ho
    rcases hnew id o hg ho (.inr hid1) hs with h | ⟨p, hp, hpd, hl, _, he⟩
    · exact .inl h
    · exact .inr ⟨p, belowN_mem hpd hp, hp, (hl.resolve_left (by omega)).2, he⟩
  · intro id hid hD
    have hid : id < H.length := hid
    show (outH H st)[id]? = H[id]?
    rw [hget, if_pos ⟨hid, fun h => hD (belowN_mem h hid)⟩]
  · intro id hid; cases hid
  · refine fun id hid => ⟨fun hlv => ?_, fun hlv => ?_⟩
    · obtain ⟨o, ho, hs⟩ := hlv
      have hid : id < H.length := hid
      have ho : (outH H st)[id]? = some o := ho
      rw [hget] at ho
      split at ho
      · exact ⟨o, ho, solid_eq (hpar id hid) hs⟩
      · exact (hc.old id ((keepsOf_stays H id).2 hid)).1 ⟨o, ho, hs⟩
    · obtain ⟨o, ho, hs⟩ := hlv
      have hid : id < H.length := hid
      have ho : (outH H st)[id]? = some o := ho
      rw [hget] at ho
      split at ho
      · exact ⟨o, ho, solid0_eq (hpar id hid) hs⟩
      · exact (hc.old id ((keepsOf_stays H id).2 hid)).2 ⟨o, ho, hs⟩
theorem argEnv_rel {E : Emb} {N n : Nat} {args args' : List Value} (h : PW E N args args') (hle : args'.length ≤ n) : EnvR E N (argEnv 0 args) { tmps := (⟨args'⟩ : Array Value) ++ Array.replicate (n - (⟨args'⟩ : Array Value).size) undef, defers := [] } := by
  intro t
  rw [argEnv_get, if_pos (Nat.zero_le _), Nat.sub_zero]
  by_cases ht : t < args'.length
  · have hl : t < args.length := by rw [h.1]; exact ht
    have := h.2 t _ _ (List.getElem?_eq_getElem hl) (List.getElem?_eq_getElem ht)
    have e1 : args.getD t undef = args[t] := by simp [List.getD, hl]
    have e2 : ((⟨args'⟩ : Array Value) ++ Array.replicate (n - (⟨args'⟩ : Array Value).size) undef).getD t undef = args'[t] := by
      simp [Array.getD_eq_getD_getElem?, Array.getElem?_append, ht]
    rw [e1, e2]; exact this
  · have hl : ¬ t < args.length := by rw [h.1]; exact ht
    have e1 : args.getD t undef = undef := by simp [List.getD, Nat.le_of_not_lt hl]
    rw [e1]; exact .any _
theorem res_vr {E : Emb} {N : Nat} {vs vs' : List Value} : PW E N vs vs' → VR E N (match vs with | [v] => v | vs => .tuple ⟨vs⟩) (match vs' with | [v] => v | vs => .tuple ⟨vs⟩) := by
  intro h
  match vs, vs', h with
  | [], [], h7 => exact VR.tup_mk .nil
  | [], _ :: _, h7 => exact absurd h7.1 (by simp)
  | [v], [u], h7 => exact (h7.2 0 v u rfl rfl)
  | [v], [], h7 => exact absurd h7.1 (by simp)
  | [v], _ :: _ :: _, h7 => exact absurd h7.1 (by simp)
  | v1 :: v2 :: l, [], h7 => exact absurd h7.1 (by simp)
  | v1 :: v2 :: l, [_], h7 => exact absurd h7.1 (by simp)
  | v1 :: v2 :: l, _ :: _ :: _, h7 => exact VR.tup_mk h7
theorem resultV_ok : ∀ (l : List ResultVar) {st st' : St T} {vs : List Value}, resultV cx st l = some (vs, st') → st'.ok = true → st.ok = true
  | [], st, st', vs, h, hok => by simp [resultV] at h; rw [h.2]; exact hok
  | .tmp t :: l, st, st', vs, h, hok => by
    simp only [resultV] at h
    split at h
    · rename_i l1 st1 h1; simp at h; rw [← h.2] at hok; exact resultV_ok l h1 hok
    · cases h
  | .cell x t :: l, st, st', vs, h, hok => by
    simp only [resultV] at h
    split at h
    · split at h
      · rename_i g _ _ l1 st1 h1
        simp at h; rw [← h.2] at hok
        refine resultV_ok l h1 ?_
        cases g with
        | none => exact hok
        | some g => simp [St.need] at hok; exact hok.1
      · cases h
    · cases h
theorem retOut_sound {fn : Func} {E : Emb} {w : World} {H : List (Ob T)} (hS : Sim cx.glob E H w) {E' : Emb} {st : St T} {a : Act} {w' : World} (hc : CR cx (keepsOf H) E w H [] E' st a w') {out : CallOut T}
    (h : (retOut cx fn H st).pick = some out) (hok : out.ok = true) : st.ok = true ∧ ∃ v, (results fn a.tmps).run cx.P w' = .ok v w' ∧ CallR cx.glob E H w out (.returned v) w' := by
  unfold retOut at h
  split at h
  · rename_i vs st1 h1
    have := pick_leaf h; subst this
    obtain ⟨⟨h2, e1, e2⟩, vs', h3, h4⟩ := resultV_sound _ h1 hok hc.str.sim hc.str.env
    refine ⟨h2, _, results_run fn _ h3, E', ?_, ?_⟩
    · have hl : (outH H st1).length = st.heap.length := by
        show (unmask st1.dirty 0 H st1.heap).length = _
        rw [e1, e2]; exact unmask_len _ _ _ (hc.stp hS).1
      rw [hl]; exact res_vr h4
    · have hs := (hc.stp hS).2
      have e : outH H st1 = outH H st := by unfold outH; rw [e1, e2]
      rw [e, e2]; exact hs
  · exact (pick_fail h).elim
theorem inlC_sound (hC : CallOK cx) (hD : RgDraw cx) (hDL : RgDrawLvl cx) {f : FuncId} {fn : Func} {k : Nat} (hf : cx.P.funcs[f]? = some fn) (hn : fn.ntmps = cx.n) {args : List Value} {H : List (Ob T)} {out : CallOut T} (h : (inlC cx fn k args H).pick = some out) (hok : out.ok = true)
    {E : Emb} {w : World} {args' : List Value} (ha : PW E H.length args args') (hS : Sim cx.glob E H w) : Calls cx.P f ⟨args'⟩ w (CallR cx.glob E H w out) := by
  unfold inlC at h
  split at h
  · rename_i c hb
    split at h
    case h_2 => exact (pick_fail h).elim
    rename_i hble
    have hle : args'.length ≤ fn.ntmps := by rw [← ha.1, hn]; exact Nat.le_of_ble_eq_true hble
    obtain ⟨s, h1, h2⟩ := pick_bind _ _ _ h
    refine calls_of_wp hf hb ?_
    have hsok : s.state.ok = true := by
      cases s with
      | done st =>
        simp only [stopOut, retOut] at h2
        split at h2
        · rename_i vs st1 h3
          have := pick_leaf h2; subst this
          exact resultV_ok (cx := cx) _ h3 hok
        · exact (pick_fail h2).elim
      | ret st =>
        simp only [stopOut, retOut] at h2
        split at h2
        · rename_i vs st1 h3
          have := pick_leaf h2; subst this
          exact resultV_ok (cx := cx) _ h3 hok
        · exact (pick_fail h2).elim
      | pan v st => have := pick_leaf h2; subst this; exact hok
      | exit i st => exact (pick_fail h2).elim
      | cut l st => exact (pick_fail h2).elim
    refine runU_sound hC hD hDL (keepsOf H) h1 hsok (E0 := E) (w0 := w) (H0 := H) (G := []) (CR.begin hS (argEnv_rel ha hle) ?_ rfl rfl) ?_
    · simp [hn]; omega
    · cases s with
      | done st =>
        intro a' w' E' hd hc
        obtain ⟨_, v, h3, h4⟩ := retOut_sound hS hc h2 hok
        exact ⟨hd, v, h3, h4⟩
      | ret st =>
        intro a' w' E' hd hc
        obtain ⟨_, v, h3, h4⟩ := retOut_sound hS hc h2 hok
        exact ⟨hd, v, h3, h4⟩
      | pan v st =>
        intro v' a' w' E' hd hc hv
        have := pick_leaf h2; subst this
        refine ⟨hd, v', E', rfl, ?_, (hc.stp hS).2⟩
        have hl : (outH H st).length = st.heap.length := unmask_len _ _ _ (hc.stp hS).1
        rw [hl]; exact hv
      | exit i st => exact (pick_fail h2).elim
      | cut l st => exact (pick_fail h2).elim
  · exact (pick_fail h).elim
theorem findI_mem : ∀ {l : List Inl} {f : FuncId} {e : Inl}, findI l f = some e → e.f = f ∧ ∀ P, inlThere P l = true → there P e.f = true
  | [], f, e, h => by cases h
  | x :: r, f, e, h => by
    simp only [findI] at h
    split at h
    · rename_i hb
      simp at h; subst h
      exact ⟨Nat.eq_of_beq_eq_true hb, fun P hp => by simp [inlThere] at hp; exact hp.1⟩
    · obtain ⟨h1, h2⟩ := findI_mem h
      exact ⟨h1, fun P hp => by simp [inlThere] at hp; exact h2 P hp.2⟩
theorem there_fn {P : Program} {f : FuncId} (h : there P f = true) : ∃ fn, P.funcs[f]? = some fn ∧ (fn.name == "runtime.NumGoroutine") = false ∧ fn.body.isNone = false := by
  unfold there at h
  split at h
  · rename_i fn hf
    simp at h
    exact ⟨fn, hf, by simpa using h.1, by simpa using h.2⟩
  · cases h
end
end Go.Proofs.YtlflclfhldghbaaGreatDoor.Ls
end
section
namespace Go.Proofs.YtlflclfhldghbaaGreatDoor.Ls
open Go
noncomputable section
variable {T : TypeId → VS}
def closX (cx : Cx T) (t : Nat) (v : Value) : Op → Option Value
  | .assign (.tmp u) => match Nat.beq t u with | true => some v | false => none
  | .binOp .neq it (.tmp u) (.const .nilIface) _ => match Nat.beq t u, cx.P.underlying it with
    | true, some (.interface _) => (match v with
      | .nilIface => some (.bool false)
      | .iface _ _ => some (.bool true)
      | _ => none)
    | _, _ => none
  | _ => none
def closC (cx : Cx T) (gn : Func) (k : Nat) (cap : List Value) (v : Value) (H : List (Ob T)) : Tr (CallOut T) :=
  match gn.body with
  | some (.seq (.region _ ops false) c) => match ops.toList, Nat.ble cap.length cx.n with
    | [r, m], true => match r.op, r.guard, r.dst with
      | .call ⟨.builtin .recover, _, _⟩, none, some t => match closX cx t v m.op, m.guard, m.dst with
        | some y, none, some x => match Nat.blt t cx.n && Nat.blt x cx.n with
          | true => (runU cx (keepsOf H) k c { env := (x, y) :: (t, v) :: argEnv 0 cap, heap := H, dirty := [], known := [], gen := 0, ok := true }).bind fun s => match s with
            | .ret st => retOut cx gn H st
            | .done st => retOut cx gn H st
            | _ => .fail
          | false => .fail
        | _, _, _ => .fail
      | _, _, _ => .fail
    | _, _ => .fail
  | _ => .fail
def capOf (g : FuncId) : Value → Option (List Value)
  | .func (.func f) first cap => match Nat.beq f g, first.toList with
    | true, [] => some cap.toList
    | _, _ => none
  | _ => none
def afterD (cx : Cx T) (fn : Func) (H : List (Ob T)) (st : St T) : CallOut T → Tr (CallOut T)
  | .ret _ H' D ok => retOut cx fn H { st with heap := H', dirty := D ++ st.dirty, ok := st.ok && ok }
  | .pan _ _ _ _ => .fail
def tailD (cx : Cx T) (fn : Func) (H : List (Ob T)) (clos : Value → List (Ob T) → Tr (CallOut T)) : Stop T → Tr (CallOut T)
  | .ret st => (clos .nilIface st.heap).bind (afterD cx fn H st)
  | .done st => (clos .nilIface st.heap).bind (afterD cx fn H st)
  | .pan v st => (clos v st.heap).bind (afterD cx fn H st)
  | _ => .fail
def overS (st2 st : St T) : St T := { st with heap := outH st2.heap st, dirty := st.dirty ++ st2.dirty, gen := st2.gen }
def Stop.over (st2 : St T) : Stop T → Stop T
  | .done st => .done (overS st2 st)
  | .exit i st => .exit i (overS st2 st)
  | .ret st => .ret (overS st2 st)
  | .pan v st => .pan v (overS st2 st)
  | .cut l st => .cut l (overS st2 st)
def dfrC (cx : Cx T) (fn : Func) (k : Nat) (g : FuncId) (clos : List Value → Value → List (Ob T) → Tr (CallOut T)) (args : List Value) (H : List (Ob T)) : Tr (CallOut T) :=
  match fn.body with
  | some (.seq r0 (.seq (.region _ ops false) rest)) => match ops.toList, Nat.ble args.length cx.n with
    | [m, d], true => match d.op, d.guard, d.dst with
      | .defer ⟨.value x, aas, _⟩, none, none => match aas.toList with
        | [] => (runC cx (keepsOf H) r0 (stI args H)).bind fun s => match s with
          | .done st1 => (oneOp cx ops.toList m st1).bind fun r => match r with
            | .done st2 => match capOf g (st2.ev x) with
              | some cap => (runU cx (keepsOf st2.heap) k rest { st2 with dirty := [] }).bind fun s => tailD cx fn H (clos cap) (s.over st2)
              | none => .fail
            | .pan _ _ => .fail
          | _ => .fail
        | _ :: _ => .fail
      | _, _, _ => .fail
    | _, _ => .fail
  | _ => .fail
structure Dfr where
  i : Inl
  j : Inl
def findD : List Dfr → FuncId → Option Dfr
  | [], _ => none
  | e :: r, f => match Nat.beq e.i.f f with | true => some e | false => findD r f
def callD (cx : Cx T) (inl : List Inl) (dfr : List Dfr) : Nat → FuncId → List Value → List (Ob T) → Tr (CallOut T)
  | 0, f, args, H => cx.call f args H
  | d + 1, f, args, H => match findI inl f with
    | some e => match cx.P.funcs[f]? with
      | none => .fail
      | some fn => inlC (cx.inn fn.ntmps e (callD cx inl dfr d)) fn e.k args H
    | none => match findD dfr f with
      | some e => match cx.P.funcs[f]?, cx.P.funcs[e.j.f]? with
        | some fn, some gn => dfrC (cx.inn fn.ntmps e.i (callD cx inl dfr d)) fn e.i.k e.j.f (closC (cx.inn gn.ntmps e.j (callD cx inl dfr d)) gn e.j.k) args H
        | _, _ => .fail
      | none => cx.call f args H
def dfrThere (P : Program) : List Dfr → Bool
  | [] => true
  | e :: r => there P e.i.f && (there P e.j.f && dfrThere P r)
end
section
variable {T : TypeId → VS} {cx : Cx T}
theorem retOut_ok {fn : Func} {H : List (Ob T)} {st : St T} {out : CallOut T} (h : (retOut cx fn H st).pick = some out) (hok : out.ok = true) : st.ok = true := by
  unfold retOut at h
  split at h
  · rename_i vs st1 h3
    have := pick_leaf h; subst this
    exact resultV_ok (cx := cx) _ h3 hok
  · exact (pick_fail h).elim
theorem act_put_tmp {a : Act} {t : Nat} {v : Value} (h : t < a.tmps.size) : (a.put (some t) v).eval (.tmp t) = v := by
  simp [Act.put, Act.eval, h]
theorem belowN_sub {m i : Nat} : ∀ {l : List Nat}, i ∈ belowN m l → i ∈ l
  | [], h => h
  | j :: r, h => by
    unfold belowN at h
    split at h
    · simp at h ⊢; exact h.imp (fun h => h) belowN_sub
    · simp; exact .inr (belowN_sub h)
theorem closX_sound {E : Emb} {N : Nat} {w : World} {t : Nat} {v v' y : Value} {m : Oper} (h : closX cx t v m.op = some y) (hv : VR E N v v') {a : Act} (ht : a.eval (.tmp t) = v') :
    ∃ y', (execOp a.eval m).run cx.P w = .ok (.value y') w ∧ VR E N y y' := by
  unfold closX at h
  split at h
  · rename_i u hm
    split at h
    · rename_i hb
      have := Nat.eq_of_beq_eq_true hb; subst this
      simp at h; subst h
      exact ⟨v', by simp only [execOp, hm]; rw [ht]; rfl, hv⟩
    · cases h
  · rename_i it u yt hm
    split at h
    · rename_i ms hb hu
      have := Nat.eq_of_beq_eq_true hb; subst this
      have hnn : ∀ b : Bool, ((do eqGuard .neq it (.tmp t) (.const .nilIface) v' .nilIface; binOp .neq it v' .nilIface) : Sem Value).run cx.P w = .ok (.bool b) w → (execOp a.eval m).run cx.P w = .ok (.value (.bool b)) w := by
        intro b hr
        have e : execOp a.eval m = (do pure (.value (← (do eqGuard .neq it (.tmp t) (.const .nilIface) v' .nilIface; binOp .neq it v' .nilIface)))) := by
          simp only [execOp, hm, ht]; rfl
        rw [e]
        simp only [Sem.run_bind, hr, Result.andThen_ok]
        rfl
      split at h
      · simp at h; subst h
        have := hv.nil_eq; subst this
        refine ⟨.bool false, hnn false ?_, .scal _ rfl⟩
        have := nil_eq_run (cx := cx) (w := w) (t := it) (op := .neq) hu (.inr rfl)
        have hg : eqGuard .neq it (.tmp t) (.const .nilIface) .nilIface .nilIface = pure () := by unfold eqGuard; rfl
        rw [hg]
        simpa using this
      · rename_i τ p
        simp at h; subst h
        refine ⟨.bool true, hnn true ?_, .scal _ rfl⟩
        have := eqTop_sound (cx := cx) (E := E) (w := w) (N := N) (op := .neq) (t := it) (X := .tmp t) (Y := .const .nilIface) (x := .iface τ p) (y := .nilIface) (b := false) (by simp [eqTop, eqL, hu]) hv (.scal _ rfl) (.inr rfl) (by simp)
        simpa using this
      · cases h
    · cases h
  · cases h
theorem closC_sound (hC : CallOK cx) (hD : RgDraw cx) (hDL : RgDrawLvl cx) {g : FuncId} {gn : Func} {k : Nat} (hg : cx.P.funcs[g]? = some gn) (hn : gn.ntmps = cx.n) {cap : List Value} {v : Value} {H : List (Ob T)} {out : CallOut T}
    (h : (closC cx gn k cap v H).pick = some out) (hok : out.ok = true) {E : Emb} {w : World} {cap' : List Value} (ha : PW E H.length cap cap') (hS : Sim cx.glob E H w) {u : FrameMode} {v' : Value} (hv : VR E H.length v v')
    (hu : (u = .returning ∧ v' = .nilIface) ∨ u = .panicking [{ v := v', recovered := false }]) :
    CallsD cx.P g ⟨cap'⟩ u w (fun e u' w' => ∃ r, e = .returned r ∧ settle u' = .returning ∧ CallR cx.glob E H w out (.returned r) w') := by
  unfold closC at h
  split at h
  case h_2 => exact (pick_fail h).elim
  rename_i id ops c hb
  split at h
  case h_2 => exact (pick_fail h).elim
  rename_i r m hops hble
  split at h
  case h_2 => exact (pick_fail h).elim
  rename_i aas ats t hr1 hr2 hr3
  split at h
  case h_2 => exact (pick_fail h).elim
  rename_i y x hm1 hm2 hm3
  split at h
  case h_2 => exact (pick_fail h).elim
  rename_i hb3
  simp at hb3
  obtain ⟨hb2, hb3⟩ := hb3
  have hb2 : t < cx.n := by simpa using hb2
  have hb3 : x < cx.n := by simpa using hb3
  obtain ⟨s, h1, h2⟩ := pick_bind _ _ _ h
  have hle : cap'.length ≤ gn.ntmps := by rw [← ha.1, hn]; exact Nat.le_of_ble_eq_true hble
  have hops' : ops = #[r, m] := by cases ops; simp at hops; rw [hops]
  refine callsD_of_wpS hg hb (fun c₀ cs hc0 => ?_)
  have hsz : ((⟨cap'⟩ : Array Value) ++ Array.replicate (gn.ntmps - (⟨cap'⟩ : Array Value).size) undef).size = cx.n := by simp [hn]; omega
  have hrec : ∃ u'', settle u'' = .returning ∧ ∀ (K : Value → List Frame → Prop), K v' ({ c₀ with mode := u'' } :: cs) → (match recoverD (c₀ :: cs) with | some (y, cs') => K y cs' | none => K .nilIface (c₀ :: cs)) := by
    rcases hu with ⟨e1, e2⟩ | e1
    · refine ⟨u, by rw [e1]; rfl, fun K hK => ?_⟩
      have e : ({ c₀ with mode := u } : Frame) = c₀ := by subst hc0; rfl
      rw [e, e2] at hK
      simp only [recoverD, hc0, e1]; exact hK
    · refine ⟨.panicking [{ v := v', recovered := true }], rfl, fun K hK => ?_⟩
      simp only [recoverD, hc0, e1]; exact hK
  obtain ⟨u'', hu1, hu2⟩ := hrec
  refine wpS_seq (wpS_region ?_)
  rw [hops']
  generalize ha0 : ({ tmps := (⟨cap'⟩ : Array Value) ++ Array.replicate (gn.ntmps - (⟨cap'⟩ : Array Value).size) undef, defers := [] } : Act) = a0
  have hV0 : EnvR E H.length (argEnv 0 cap) a0 := by rw [← ha0]; exact argEnv_rel ha hle
  have hz0 : a0.tmps.size = cx.n := by rw [← ha0]; exact hsz
  have hd0 : a0.defers = [] := by rw [← ha0]
  have e1 : (execOp a0.eval r).run cx.P w = .ok .recover w := by
    simp [execOp, hr1, resolve, invoke, builtin]
  show wpOpsS cx.P #[r, m] _ [0, 1] a0 (c₀ :: cs) w
  unfold wpOpsS
  simp only [List.getElem?_toArray, List.getElem?_cons_zero, Region.wanted, hr2, if_true, e1, hr3]
  refine hu2 (fun y cs' => wpOpsS cx.P #[r, m] _ [1] (a0.put (some t) y) cs' w) ?_
  have hz1 : (a0.put (some t) v').tmps.size = cx.n := by simpa [Act.put] using hz0
  obtain ⟨y', e2, hy⟩ := closX_sound (E := E) (N := H.length) (w := w) hm1 hv (a := a0.put (some t) v') (act_put_tmp (by omega))
  unfold wpOpsS
  simp only [List.getElem?_toArray, List.getElem?_cons_succ, List.getElem?_cons_zero, Region.wanted, hm2, if_true, e2, hm3, Oper.upon]
  unfold wpOpsS
  have hV1 := put_env hV0 hv (by rw [hz0]; exact hb2)
  have hV2 := put_env hV1 hy (t := x) (by rw [hz1]; exact hb3)
  have hd2 : ((a0.put (some t) v').put (some x) y').defers = [] := by rw [← hd0]; rfl
  have hz2 : ((a0.put (some t) v').put (some x) y').tmps.size = cx.n := by simpa [Act.put] using hz1
  have fin : ∀ (st : St T) (o : CallOut T) (a' : Act) (w' : World) (E' : Emb), (retOut cx gn H st).pick = some o → o = out → a'.defers = ((a0.put (some t) v').put (some x) y').defers → CR cx (keepsOf H) E w H [] E' st a' w' →
      bodyPostS cx.P gn c₀ cs (fun e u' w' => ∃ r, e = .returned r ∧ settle u' = .returning ∧ CallR cx.glob E H w out (.returned r) w') .ret a' ({ c₀ with mode := u'' } :: cs) w' := by
    intro st o a' w' E' ho heq hd hc
    subst heq
    obtain ⟨_, y, h3, h4⟩ := retOut_sound hS hc ho hok
    exact ⟨hd.trans hd2, u'', rfl, y, h3, y, rfl, hu1, h4⟩
  refine wpS_of_wp ?_
  cases s with
  | ret st =>
    exact runU_sound hC hD hDL (keepsOf H) h1 (retOut_ok h2 hok) (CR.begin hS hV2 hz2 rfl rfl) (fun a' w' E' hd hc => fin st out a' w' E' h2 rfl hd hc)
  | done st =>
    exact runU_sound hC hD hDL (keepsOf H) h1 (retOut_ok h2 hok) (CR.begin hS hV2 hz2 rfl rfl) (fun a' w' E' hd hc => fin st out a' w' E' h2 rfl hd hc)
  | pan v st => exact (pick_fail h2).elim
  | exit i st => exact (pick_fail h2).elim
  | cut l st => exact (pick_fail h2).elim
theorem afterD_sound {fn : Func} {E : Emb} {w : World} {H : List (Ob T)} (hS : Sim cx.glob E H w) {E' : Emb} {st : St T} {a : Act} {w' : World} (hc : CR cx (keepsOf H) E w H [] E' st a w') {o out : CallOut T} (h : (afterD cx fn H st o).pick = some out) (hok : out.ok = true)
    {r : Value} {w'' : World} (ho : CallR cx.glob E' st.heap w' o (.returned r) w'') : ∃ v, (results fn a.tmps).run cx.P w'' = .ok v w'' ∧ CallR cx.glob E H w out (.returned v) w'' := by
  cases o with
  | pan => exact (pick_fail h).elim
  | ret x H' D ok =>
    simp only [afterD] at h
    obtain ⟨E'', _, hs⟩ := ho
    have hs' : Stp cx.glob E' st w' E'' { st with heap := H', dirty := D ++ st.dirty, ok := st.ok && ok } w'' := hs.of rfl rfl (fun id hid => by simp at hid; simp [hid]) (fun id hid => by simp [hid]) rfl
    have hc' := hc.step (a' := a) hs' ⟨hs'.sim, hc.str.env.mono hs'.agr hs'.len, hc.str.size⟩
    exact (retOut_sound hS hc' h hok).2
theorem afterD_ok {fn : Func} {H : List (Ob T)} {st : St T} {o out : CallOut T} (h : (afterD cx fn H st o).pick = some out) (hok : out.ok = true) : st.ok = true ∧ o.ok = true := by
  cases o with
  | pan => exact (pick_fail h).elim
  | ret x H' D ok =>
    have := retOut_ok h hok
    simpa [CallOut.ok] using this
theorem capOf_sound {E : Emb} {N : Nat} {g : FuncId} {v v' : Value} {cap : List Value} (h : capOf g v = some cap) (hv : VR E N v v') : ∃ cs' : Array Value, v' = .func (.func g) #[] cs' ∧ PW E N cap cs'.toList := by
  unfold capOf at h
  split at h
  · rename_i f fs cs
    split at h
    · rename_i hb hf
      simp at h; subst h
      have := Nat.eq_of_beq_eq_true hb; subst this
      cases hv with
      | scal _ hs => simp [scalar] at hs
      | func _ _ fs' _ cs' h1 h2 h3 h4 =>
        have : fs.size = 0 := by cases fs; simp at hf; simp [hf]
        have e : fs' = #[] := Array.eq_empty_of_size_eq_zero (by omega)
        subst e
        exact ⟨cs', rfl, by simpa using h3, fun i x x' hx hx' => h4 i x x' (by simpa using hx) (by simpa using hx')⟩
    · cases h
  · cases h
theorem dfrC_sound (hC : CallOK cx) (hD : RgDraw cx) (hDL : RgDrawLvl cx) {f g : FuncId} {fn : Func} {k : Nat} (hf : cx.P.funcs[f]? = some fn) (hn : fn.ntmps = cx.n) (hg : there cx.P g = true)
    {clos : List Value → Value → List (Ob T) → Tr (CallOut T)}
    (hcl : ∀ (cap : List Value) (v : Value) (H : List (Ob T)) (out : CallOut T), (clos cap v H).pick = some out → out.ok = true → ∀ (E : Emb) (w : World) (cap' : List Value), PW E H.length cap cap' → Sim cx.glob E H w → ∀ (u : FrameMode) (v' : Value), VR E H.length v v' →
      (u = .returning ∧ v' = .nilIface) ∨ u = .panicking [{ v := v', recovered := false }] → CallsD cx.P g ⟨cap'⟩ u w (fun e u' w' => ∃ r, e = .returned r ∧ settle u' = .returning ∧ CallR cx.glob E H w out (.returned r) w'))
    {args : List Value} {H : List (Ob T)} {out : CallOut T} (h : (dfrC cx fn k g clos args H).pick = some out) (hok : out.ok = true)
    {E : Emb} {w : World} {args' : List Value} (ha : PW E H.length args args') (hS : Sim cx.glob E H w) : Calls cx.P f ⟨args'⟩ w (CallR cx.glob E H w out) := by
  unfold dfrC at h
  split at h
  case h_2 => exact (pick_fail h).elim
  rename_i r0 id ops rest hb
  split at h
  case h_2 => exact (pick_fail h).elim
  rename_i m d hops hble
  split at h
  case h_2 => exact (pick_fail h).elim
  rename_i x aas ats hd1 hd2 hd3
  split at h
  case h_2 => exact (pick_fail h).elim
  rename_i has
  obtain ⟨s0, q1, h⟩ := pick_bind _ _ _ h
  split at h
  case h_2 => exact (pick_fail h).elim
  rename_i st1
  obtain ⟨s1, q2, h⟩ := pick_bind _ _ _ h
  split at h
  case h_2 => exact (pick_fail h).elim
  rename_i st2
  split at h
  case h_2 => exact (pick_fail h).elim
  rename_i cap hcap
  obtain ⟨s, q3, q4⟩ := pick_bind _ _ _ h
  have hle : args'.length ≤ fn.ntmps := by rw [← ha.1, hn]; exact Nat.le_of_ble_eq_true hble
  have hops' : ops = #[m, d] := by cases ops; simp at hops; rw [hops]
  have has' : aas = #[] := by cases aas; simp at has; rw [has]
  subst hops'; subst has'
  have hsok : s.state.ok = true := by
    have one : ∀ (v : Value) (st : St T), ((clos cap v st.heap).bind (afterD cx fn H st)).pick = some out → st.ok = true := fun v st hp => by
      obtain ⟨o, _, h2⟩ := pick_bind _ _ _ hp
      exact (afterD_ok h2 hok).1
    cases s with
    | done st => exact one _ (overS st2 st) q4
    | ret st => exact one _ (overS st2 st) q4
    | pan v st => exact one _ (overS st2 st) q4
    | exit i st => exact (pick_fail q4).elim
    | cut l st => exact (pick_fail q4).elim
  have h2ok : st2.ok = true := runU_ok (st := { st2 with dirty := [] }) hDL _ q3 hsok
  have hz : ((⟨args'⟩ : Array Value) ++ Array.replicate (fn.ntmps - (⟨args'⟩ : Array Value).size) undef).size = cx.n := by simp [hn]; omega
  refine calls_of_wp_defers hf hb ?_
  obtain ⟨gn, g1, g2, g3⟩ := there_fn hg
  have fin : ∀ (v v' : Value) (u : FrameMode) (cs' : Array Value) (st : St T) (E' : Emb) (a' : Act) (w' : World), u ≠ .run → ((clos cap v st.heap).bind (afterD cx fn H st)).pick = some out → PW E' st.heap.length cap cs'.toList → VR E' st.heap.length v v' →
      (u = .returning ∧ v' = .nilIface) ∨ u = .panicking [{ v := v', recovered := false }] → CR cx (keepsOf H) E w H [] E' st a' w' →
      Leaves cx.P fn a'.tmps (CallR cx.glob E H w out) [{ target := .fn (.func g) cs', args := #[] }] u w' := by
    intro v v' u cs' st E' a' w' hu hp hpw hvr hcase hc
    obtain ⟨o, o1, o2⟩ := pick_bind _ _ _ hp
    have hook := (afterD_ok o2 hok).2
    have hcall := hcl cap v st.heap o o1 hook E' w' cs'.toList hpw hc.str.sim u v' hvr hcase
    have hcall : CallsD cx.P g cs' u w' _ := hcall
    refine leaves_cons (args := cs') hu ?_ (hcall.mono ?_)
    · simp only [invoke, callFunc, Sem.run_bind, run_program, Result.andThen_ok, g1, g2, g3, Array.empty_append]
      rfl
    · rintro e u' w'' ⟨r, rfl, hset, hR⟩
      show Leaves cx.P fn a'.tmps (CallR cx.glob E H w out) [] (settle u') w''
      rw [hset]
      exact afterD_sound hS hc o2 hok hR
  have hok1 : st1.ok = true := oneOp_ok q2 h2ok
  refine wp_seq ?_
  refine runC_sound hC hD hDL (keepsOf H) r0 (CR.begin hS (argEnv_rel ha hle) hz rfl rfl) q1 hok1 ?_
  intro a1 w1 E1 hd1' hc1 _
  refine wp_seq (wp_region ?_)
  show wpOps cx.P #[m, d] _ [0, 1] a1 w1
  rw [wpOps_cons]
  obtain ⟨_, _, g3'⟩ := oneOp_sound hc1.str hC (ops := #[m, d]) (i := 0) rfl q2 h2ok
  refine g3' _ _ ?_
  intro a2 w2 E2 hd2' hr2 hs2
  have hc2 := hc1.step hs2 hr2
  obtain ⟨cs', hx, hpw⟩ := capOf_sound hcap (ev_rel hc2.str.sim hc2.str.env x)
  rw [wpOps_cons]
  have e : (execOp a2.eval d).run cx.P w2 = .ok (.defer { target := .fn (.func g) cs', args := #[] }) w2 := by
    simp [execOp, hd1, resolve, hx, Deferred.ofValue]
  unfold wpOp
  simp only [List.getElem?_toArray, List.getElem?_cons_succ, List.getElem?_cons_zero, Region.wanted, hd2, if_true]
  refine .inl ?_
  unfold Oper.wp
  rw [e]
  simp only [Oper.upon, hd3]
  unfold wpOps
  show rest.wp cx.P _ _ w2
  have hdef : ({ a2 with defers := { target := .fn (.func g) cs', args := #[] } :: a2.defers }.put none undef : Act).defers = [{ target := .fn (.func g) cs', args := #[] }] := by
    show _ :: a2.defers = _
    rw [hd2', hd1']
  have hc3 : CR cx (keepsOf H) E w H [] E2 st2 ({ a2 with defers := { target := .fn (.func g) cs', args := #[] } :: a2.defers }.put none undef) w2 := by
    refine ⟨⟨hc2.str.sim, hc2.str.env, hc2.str.size⟩, hc2.par, hc2.frame, hc2.loc, hc2.os, hc2.tape, hc2.out, hc2.size, hc2.le, hc2.pin, hc2.old, hc2.gl⟩
  generalize ({ a2 with defers := { target := .fn (.func g) cs', args := #[] } :: a2.defers }.put none undef : Act) = a3 at hdef hc3
  have hS2 := hc3.str.sim
  have over : ∀ (st : St T) (E' : Emb) (a' : Act) (w' : World), CR cx (keepsOf st2.heap) E2 w2 st2.heap [] E' st a' w' → CR cx (keepsOf H) E w H [] E' (overS st2 st) a' w' ∧ PW E' (overS st2 st).heap.length cap cs'.toList ∧ (overS st2 st).heap.length = st.heap.length := by
    intro st E' a' w' hcN
    obtain ⟨hl, hstp⟩ := hcN.stp hS2
    have hlen : (overS st2 st).heap.length = st.heap.length := unmask_len _ _ _ hl
    have hstp' : Stp cx.glob E2 st2 w2 E' (overS st2 st) w' := hstp.of rfl rfl (fun id hid => by simp [overS]; exact .inl (belowN_sub hid)) (fun id hid => by simp [overS, hid]) rfl
    refine ⟨hc3.step hstp' ⟨hstp'.sim, by rw [hlen]; exact hcN.str.env, hcN.str.size⟩, hpw.mono hstp'.agr hstp'.len, hlen⟩
  refine runU_sound hC hD hDL (keepsOf st2.heap) q3 hsok (CR.begin hS2 hc3.str.env hc3.str.size rfl rfl) ?_
  cases s with
  | done st =>
    intro a' w' E' hd hcN
    obtain ⟨c1, c2, c3⟩ := over st E' a' w' hcN
    show Leaves cx.P fn a'.tmps _ a'.defers .returning w'
    rw [hd, hdef]
    exact fin .nilIface .nilIface .returning cs' (overS st2 st) E' a' w' (by simp) q4 c2 (.scal _ rfl) (.inl ⟨rfl, rfl⟩) c1
  | ret st =>
    intro a' w' E' hd hcN
    obtain ⟨c1, c2, c3⟩ := over st E' a' w' hcN
    show Leaves cx.P fn a'.tmps _ a'.defers .returning w'
    rw [hd, hdef]
    exact fin .nilIface .nilIface .returning cs' (overS st2 st) E' a' w' (by simp) q4 c2 (.scal _ rfl) (.inl ⟨rfl, rfl⟩) c1
  | pan v st =>
    intro v' a' w' E' hd hcN hv
    obtain ⟨c1, c2, c3⟩ := over st E' a' w' hcN
    show Leaves cx.P fn a'.tmps _ a'.defers (.panicking [{ v := v', recovered := false }]) w'
    rw [hd, hdef]
    exact fin v v' _ cs' (overS st2 st) E' a' w' (by simp) q4 c2 (by rw [c3]; exact hv) (.inr rfl) c1
  | exit i st => exact (pick_fail q4).elim
  | cut l st => exact (pick_fail q4).elim
theorem findD_mem : ∀ {l : List Dfr} {f : FuncId} {e : Dfr}, findD l f = some e → e.i.f = f ∧ ∀ P, dfrThere P l = true → there P e.i.f = true ∧ there P e.j.f = true
  | [], f, e, h => by cases h
  | x :: r, f, e, h => by
    simp only [findD] at h
    split at h
    · rename_i hb
      simp at h; subst h
      exact ⟨Nat.eq_of_beq_eq_true hb, fun P hp => by simp [dfrThere] at hp; exact ⟨hp.1, hp.2.1⟩⟩
    · obtain ⟨h1, h2⟩ := findD_mem h
      exact ⟨h1, fun P hp => by simp [dfrThere] at hp; exact h2 P hp.2.2⟩
theorem callD_ok (hm : cx.P.follows .mixedOrders = true) (hC : CallOK cx) {inl : List Inl} (hi : inlThere cx.P inl = true) {dfr : List Dfr} (hd : dfrThere cx.P dfr = true) : ∀ (d : Nat) (cx' : Cx T), cx'.P = cx.P → cx'.glob = cx.glob → cx'.call = callD cx inl dfr d → CallOK cx'
  | 0, cx', h1, h2, h3 => by
    intro f args H out hp hok hle E w args' ha hS
    rw [h3] at hp
    rw [h2] at hS
    rw [h1, h2]
    exact hC f args H out hp hok hle E w args' ha hS
  | d + 1, cx', h1, h2, h3 => by
    intro f args H out hp hok hle E w args' ha hS
    rw [h3] at hp
    rw [h2] at hS
    rw [h1, h2]
    simp only [callD] at hp
    split at hp
    · rename_i e he
      obtain ⟨rfl, ht⟩ := findI_mem he
      split at hp
      · exact (pick_fail hp).elim
      · rename_i fn hf
        refine .inl ⟨there_fn (ht _ hi), ?_⟩
        have ih := callD_ok hm hC hi hd d (cx.inn fn.ntmps e (callD cx inl dfr d)) rfl rfl rfl
        exact inlC_sound (cx := cx.inn fn.ntmps e (callD cx inl dfr d)) ih (rgDraw hm ih) rgDrawLvl hf rfl hp hok ha hS
    · split at hp
      · rename_i e he
        obtain ⟨rfl, ht⟩ := findD_mem he
        obtain ⟨t1, t2⟩ := ht _ hd
        split at hp
        · rename_i fn gn hf hg
          refine .inl ⟨there_fn t1, ?_⟩
          have ih := callD_ok hm hC hi hd d (cx.inn fn.ntmps e.i (callD cx inl dfr d)) rfl rfl rfl
          have ihg := callD_ok hm hC hi hd d (cx.inn gn.ntmps e.j (callD cx inl dfr d)) rfl rfl rfl
          exact dfrC_sound (cx := cx.inn fn.ntmps e.i (callD cx inl dfr d)) ih (rgDraw hm ih) rgDrawLvl hf rfl t2
            (fun cap v H out hp hok E w cap' ha hS u v' hv hu => closC_sound (cx := cx.inn gn.ntmps e.j (callD cx inl dfr d)) ihg (rgDraw hm ihg) rgDrawLvl hg rfl hp hok ha hS hv hu) hp hok ha hS
        · exact (pick_fail hp).elim
      · exact hC f args H out hp hok hle E w args' ha hS
end
end Go.Proofs.YtlflclfhldghbaaGreatDoor.Ls
end
section
namespace Go.Proofs.YtlflclfhldghbaaGreatDoor.Ls
open Go
noncomputable section
variable {T : TypeId → VS}
def onAlts (cx : Cx T) (g : Sig) (L : List It → St T → Res T g) (todo : List It) (st : St T) (key : Nat) : List (Nat × SS) → Res T g
  | [] => .bad g
  | (j, s) :: r => match Nat.beq j key with
    | true => match s.dec cx.glob g.eff st with
      | some v => ⟨st.ok && (L todo (s.st 0 v)).ok, (L todo (s.st 0 v)).pan, (L todo (s.st 0 v)).ret, (L todo (s.st 0 v)).out, (L todo (s.st 0 v)).pv⟩
      | none => onAlts cx g L todo st key r
    | false => onAlts cx g L todo st key r
def onCutU (cx : Cx T) (g : Sig) (un : List Nat) (L : List It → St T → Res T g) (todo : List It) (st : St T) : Res T g :=
  match memN (keyOf todo) un with
  | true => L todo st
  | false => onAlts cx g L todo st (keyOf todo) cx.cuts
def loopG (cx : Cx T) (g : Sig) (fn : Func) (un : List Nat) : Nat → List It → St T → Res T g
  | 0, _, _ => .bad g
  | k + 1, todo, st => finishT cx g fn (onCutU cx g un (loopG cx g fn un k)) (roundL cx g.eff todo st)
def bodyG (cx : Cx T) (g : Sig) (fn : Func) (un : List Nat) (k : Nat) (a : g.args.ty) (h : tysO T g.hp) : Res T g :=
  match fn.body with
  | some c => finishT cx g fn (onCutU cx g un (loopG cx g fn un k)) (runC cx g.eff c (st0 g a h))
  | none => .bad g
def todoC (key : Nat) : Code → Option (List It)
  | .seq a b => match todoC key a with | some l => some (l ++ [.code b]) | none => todoC key b
  | .cond _ a b => match todoC key a with | some l => some l | none => todoC key b
  | .block id a => match todoC key a with | some l => some (l ++ [.inBlock id]) | none => none
  | .scope a => match todoC key a with | some l => some (l ++ [.inScope]) | none => none
  | .loop a => match Nat.beq (keyC a) key with
    | true => some [.loop a]
    | false => match todoC key a with | some l => some (l ++ [.loop a]) | none => none
  | _ => none
def todoS (key : Nat) : Code → Option (List It)
  | .seq a b => match Nat.beq (keyC b) key with
    | true => some [.code b]
    | false => match todoS key a with | some l => some (l ++ [.code b]) | none => todoS key b
  | .cond _ a b => match todoS key a with | some l => some l | none => todoS key b
  | .block id a => match todoS key a with | some l => some (l ++ [.inBlock id]) | none => none
  | .scope a => match todoS key a with | some l => some (l ++ [.inScope]) | none => none
  | .loop a => match todoS key a with | some l => some (l ++ [.loop a]) | none => none
  | _ => none
def todoG (fn : Func) (key : Nat) : List It := match fn.body with | some c => (match todoS key c with | some l => l | none => []) | none => []
def todoF (fn : Func) (key : Nat) : List It := match fn.body with | some c => (match todoC key c with | some l => l | none => []) | none => []
def Tr.orE {α : Type} : Tr α → (Unit → Tr α) → Tr α
  | .fail, f => f ()
  | .leaf a, _ => .leaf a
  | .node b t e, _ => .node b t e
def callT2 (glob : Nat → Option (Ob T)) : List (Ent T) → FuncId → List Value → List (Ob T) → Tr (CallOut T)
  | [], _, _, _ => .fail
  | e :: r, f, args, H => match Nat.beq e.f f with
    | true => (wrap glob e.g e.F args H).orE fun _ => callT2 glob r f args H
    | false => callT2 glob r f args H
end
section
variable {T : TypeId → VS} {cx : Cx T}
theorem onAlts_sound {g : Sig} {fn : Func} {E0 : Emb} {w0 : World} {H0 : List (Ob T)} {L : List It → St T → Res T g}
    (hL : ∀ todo st, (L todo st).ok = true → ∀ E a w, CR cx g.eff E0 w0 H0 [] E st a w → a.defers = [] → postK cx.P todo (bodyPost cx.P fn (EndOK cx.glob g E0 w0 H0 (L todo st))) .normal a w) (todo : List It) (st : St T) (key : Nat) :
    ∀ (l : List (Nat × SS)), (onAlts cx g L todo st key l).ok = true → st.ok = true ∧ ∀ E a w, CR cx g.eff E0 w0 H0 [] E st a w → a.defers = [] → postK cx.P todo (bodyPost cx.P fn (EndOK cx.glob g E0 w0 H0 (onAlts cx g L todo st key l))) .normal a w
  | [], hok => by simp [onAlts, Res.bad] at hok
  | (j, s) :: r, hok => by
    unfold onAlts at hok ⊢
    split
    · rename_i hb
      rw [hb] at hok
      simp only at hok
      split
      · rename_i v hv
        rw [hv] at hok
        simp at hok
        refine ⟨hok.1, fun E a w hc hd => ?_⟩
        obtain ⟨E', hc'⟩ := SS_dec_sound hc hv 0
        exact hL todo (s.st 0 v) hok.2 E' a w hc' hd
      · rename_i hv
        rw [hv] at hok
        exact onAlts_sound hL todo st key r hok
    · rename_i hb
      rw [hb] at hok
      exact onAlts_sound hL todo st key r hok
theorem onCutU_sound {g : Sig} {fn : Func} {un : List Nat} {E0 : Emb} {w0 : World} {H0 : List (Ob T)} {L : List It → St T → Res T g}
    (hL : ∀ todo st, (L todo st).ok = true → st.ok = true ∧ ∀ E a w, CR cx g.eff E0 w0 H0 [] E st a w → a.defers = [] → postK cx.P todo (bodyPost cx.P fn (EndOK cx.glob g E0 w0 H0 (L todo st))) .normal a w) : KOK cx g fn E0 w0 H0 (onCutU cx g un L) := by
  intro todo st hok
  unfold onCutU at hok ⊢
  split
  · rename_i h
    rw [h] at hok
    exact hL todo st hok
  · rename_i h
    rw [h] at hok
    exact onAlts_sound (fun todo st hok E a w => (hL todo st hok).2 E a w) todo st _ _ hok
theorem loopG_sound (hC : CallOK cx) (hD : RgDraw cx) (hDL : RgDrawLvl cx) {g : Sig} {fn : Func} {un : List Nat} {E0 : Emb} {w0 : World} {H0 : List (Ob T)} : ∀ (k : Nat) (todo : List It) (st : St T), (loopG cx g fn un k todo st).ok = true → st.ok = true ∧ ∀ E a w, CR cx g.eff E0 w0 H0 [] E st a w → a.defers = [] →
    postK cx.P todo (bodyPost cx.P fn (EndOK cx.glob g E0 w0 H0 (loopG cx g fn un k todo st))) .normal a w
  | 0, todo, st, h => by simp [loopG, Res.bad] at h
  | k + 1, todo, st, h => by
    simp only [loopG] at h ⊢
    obtain ⟨s, h1, h2⟩ := finishT_pick _ h
    rw [h2] at h ⊢
    obtain ⟨h3, h4⟩ := stop_sound (onCutU_sound (loopG_sound hC hD hDL k)) h
    refine ⟨roundL_ok hDL g.eff h1 h3, fun E a w hc hd => ?_⟩
    exact roundL_sound hC hD hDL g.eff hc h1 h3 (h4 E st a w hd)
theorem bodyG_sound (hm : cx.P.follows .mixedOrders = true) (hC : CallOK cx) {g : Sig} {f : FuncId} {fn : Func} {un : List Nat} (hf : cx.P.funcs[f]? = some fn) (hn : fn.ntmps = cx.n) (ha : Nat.ble g.args.len cx.n = true) (he : effOk g.eff g.hp = true)
    (kf : g.args.ty → tysO T g.hp → Nat) : FOK cx.P cx.glob f g (fun a h => bodyG cx g fn un (kf a h) a h) := by
  intro a h hok E0 w0 args' hargs hS
  have hD := rgDraw hm hC
  have hDL := rgDrawLvl (cx := cx)
  have he' := he
  have he := (effOk_spec he).1
  have hlen := encO_len (T := T) g.hp h
  have hal : args'.length = g.args.len := by rw [← hargs.1, enc_len_true]; rfl
  simp only at hok ⊢
  generalize kf a h = k at hok ⊢
  unfold bodyG at hok ⊢
  split
  · rename_i c hb
    rw [hb] at hok
    simp only at hok
    obtain ⟨s, h1, h2⟩ := finishT_pick _ hok
    rw [h2] at hok ⊢
    obtain ⟨h3, h4⟩ := stop_sound (onCutU_sound (loopG_sound hC hD hDL k)) hok
    refine calls_of_wp hf hb ?_
    have hle : args'.length ≤ cx.n := by rw [hal]; exact Nat.le_of_ble_eq_true ha
    refine runC_sound hC hD hDL g.eff c (E0 := E0) (w0 := w0) (H0 := encO rid g.hp h) (G := []) (E := E0) ⟨⟨hS, ?_, ?_⟩, fun _ _ => rfl, fun _ _ _ => rfl, ?_, rfl, rfl, rfl, Nat.le_refl _, ?_, ?_, fun _ _ => ⟨fun h => h, fun h => h⟩, fun _ _ => rfl⟩ h1 h3 (h4 E0 _ _ _ rfl)
    · show EnvR E0 (encO rid g.hp h).length (argEnv 0 (g.args.enc rid true a [])) _
      rw [hlen]
      exact argEnv_rel hargs (by rw [hn]; exact hle)
    · simp [hn]; omega
    · intro id hid hst hlv
      have hid : id < g.eff.length := by rw [he, ← hlen]; exact hid
      exact .inr ⟨id, hid, .inl hst, kill_live he' hS hst hid hlv, rfl⟩
    · rw [he, ← hlen]; exact hS.le
    · intro p hp
      show p < (encO rid g.hp h).length
      rw [hlen, ← he]; exact stays_lt hp
  · rename_i hb; rw [hb] at hok; simp [Res.bad] at hok
theorem orE_pick {α : Type} {t : Tr α} {f : Unit → Tr α} {a : α} (h : (t.orE f).pick = some a) : t.pick = some a ∨ (f ()).pick = some a := by
  cases t with
  | fail => exact .inr h
  | leaf x => exact .inl h
  | node b t e => exact .inl h
theorem callT2_pick {P : Program} {glob : Nat → Option (Ob T)} {f : FuncId} {args : List Value} {H : List (Ob T)} {out : CallOut T} : ∀ (l : List (Ent T)), TblOK P glob l → (callT2 glob l f args H).pick = some out →
    ∃ e : Ent T, e.f = f ∧ there P e.f = true ∧ FOK P glob e.f e.g e.F ∧ (wrap glob e.g e.F args H).pick = some out
  | [], _, h => (pick_fail h).elim
  | e :: r, ht, h => by
    simp only [callT2] at h
    split at h
    · rename_i hb
      rcases orE_pick h with h | h
      · exact ⟨e, Nat.eq_of_beq_eq_true hb, ht.1.1, ht.1.2, h⟩
      · exact callT2_pick r ht.2 h
    · exact callT2_pick r ht.2 h
theorem callT2_ok {l : List (Ent T)} (hl : TblOK cx.P cx.glob l) (hc : cx.call = callT2 cx.glob l) : CallOK cx := by
  intro f args H out hp hok hle E w args' hargs hS
  rw [hc] at hp
  obtain ⟨e, rfl, h1, h2, h3⟩ := callT2_pick l hl hp
  exact .inl ⟨there_fn h1, wrap_sound h2 h3 hok hle hargs hS⟩
end
end Go.Proofs.YtlflclfhldghbaaGreatDoor.Ls
end
section
namespace Go.Proofs.YtlflclfhldghbaaGreatDoor.Ls
open Go
noncomputable section
variable {T : TypeId → VS}
def extC (sub : Bool) (args : List Value) (H : List (Ob T)) : Tr (CallOut T) :=
  match args with
  | [.int .u64 x, .int .u64 y, .int .u64 c] => match sub with
    | false => .leaf (.ret (.tuple #[.int .u64 (((x.toNat + y.toNat + c.toNat) % 18446744073709551616 : Nat) : Int), .int .u64 (((x.toNat + y.toNat + c.toNat) / 18446744073709551616 : Nat) : Int)]) H [] (Nat.ble c.toNat 1))
    | true => .leaf (.ret (.tuple #[.int .u64 (((x.toNat + 18446744073709551616 - y.toNat - c.toNat) % 18446744073709551616 : Nat) : Int), .int .u64 (((bif Nat.blt x.toNat (y.toNat + c.toNat) then 1 else 0 : Nat)) : Int)]) H [] (Nat.ble c.toNat 1))
  | _ => .fail
def findX : List (FuncId × Bool) → FuncId → Option Bool
  | [], _ => none
  | (g, s) :: r, f => match Nat.beq g f with | true => some s | false => findX r f
def callX (ext : List (FuncId × Bool)) (base : FuncId → List Value → List (Ob T) → Tr (CallOut T)) (f : FuncId) (args : List Value) (H : List (Ob T)) : Tr (CallOut T) :=
  match findX ext f with
  | some s => extC s args H
  | none => base f args H
def sub64E : Array Value → Sem Value := fun args => do
  let (x, y, b) ← Extern.MathBitsCarry.three "Sub64" args
  pure (Extern.MathBitsCarry.pair ((x + Extern.MathBitsCarry.m64 - y - b) % Extern.MathBitsCarry.m64) (if x < y + b then 1 else 0))
def ExtOK (P : Program) : List (FuncId × Bool) → Prop
  | [] => True
  | (f, s) :: r => (∃ fn, P.funcs[f]? = some fn ∧ (fn.name == "runtime.NumGoroutine") = false ∧ fn.body.isNone = true ∧ Extern.findNext fn = none ∧ Extern.find fn = some (match s with | true => sub64E | false => add64Entry)) ∧ ExtOK P r
end
section
variable {T : TypeId → VS} {cx : Cx T}
theorem extC_sound {P : Program} {f : FuncId} {s : Bool} {fn : Func} (h1 : P.funcs[f]? = some fn) (h2 : (fn.name == "runtime.NumGoroutine") = false) (h3 : fn.body.isNone = true) (h4 : Extern.findNext fn = none) (h5 : Extern.find fn = some (match s with | true => sub64E | false => add64Entry))
    {glob : Nat → Option (Ob T)} {args : List Value} {H : List (Ob T)} {out : CallOut T} (h : (extC s args H).pick = some out) (hok : out.ok = true) {E : Emb} {w : World} {args' : List Value} (ha : PW E H.length args args') (hS : Sim glob E H w) :
    ∃ v', (callFunc f ⟨args'⟩).run P w = .ok (.value v') w ∧ CallR glob E H w out (.returned v') w := by
  unfold extC at h
  split at h
  case h_2 => exact (pick_fail h).elim
  rename_i x y c
  have e : args' = [.int .u64 x, .int .u64 y, .int .u64 c] := by
    obtain ⟨u1, r1, rfl, a1, ha⟩ := ha.inv_cons
    obtain ⟨u2, r2, rfl, a2, ha⟩ := ha.inv_cons
    obtain ⟨u3, r3, rfl, a3, ha⟩ := ha.inv_cons
    have := ha.inv_nil; subst this
    rw [a1.scalar_eq rfl, a2.scalar_eq rfl, a3.scalar_eq rfl]
  subst e
  have fin : ∀ (a b : Int), VR E H.length (.tuple #[.int .u64 a, .int .u64 b]) (.tuple #[.int .u64 a, .int .u64 b]) := fun a b => VR.tup_mk (.cons (.scal _ rfl) (.cons (.scal _ rfl) .nil))
  rw [run_callFunc_extern h1 h2 h3 h4 h5]
  cases s with
  | false =>
    have := pick_leaf h; subst this
    have hc : c.toNat ≤ 1 := Nat.le_of_ble_eq_true hok
    refine ⟨_, ?_, E, fin _ _, Stp.refl hS⟩
    have hr : (add64Entry #[.int .u64 x, .int .u64 y, .int .u64 c]).run P w = .ok (Extern.MathBitsCarry.pair ((x.toNat + y.toNat + c.toNat) % Extern.MathBitsCarry.m64) ((x.toNat + y.toNat + c.toNat) / Extern.MathBitsCarry.m64)) w := by
      match c, hc with
      | .ofNat 0, _ => rfl
      | .ofNat 1, _ => rfl
      | .ofNat (n + 2), hc => exact absurd (show n + 2 ≤ 1 from hc) (by omega)
      | .negSucc n, _ => rfl
    simp only [hr, Result.andThen]
    rfl
  | true =>
    have := pick_leaf h; subst this
    have hc : c.toNat ≤ 1 := Nat.le_of_ble_eq_true hok
    refine ⟨_, ?_, E, fin _ _, Stp.refl hS⟩
    have hr : (sub64E #[.int .u64 x, .int .u64 y, .int .u64 c]).run P w = .ok (Extern.MathBitsCarry.pair ((x.toNat + Extern.MathBitsCarry.m64 - y.toNat - c.toNat) % Extern.MathBitsCarry.m64) (if x.toNat < y.toNat + c.toNat then 1 else 0)) w := by
      match c, hc with
      | .ofNat 0, _ => rfl
      | .ofNat 1, _ => rfl
      | .ofNat (n + 2), hc => exact absurd (show n + 2 ≤ 1 from hc) (by omega)
      | .negSucc n, _ => rfl
    simp only [hr, Result.andThen]
    have e2 : (bif Nat.blt x.toNat (y.toNat + c.toNat) then 1 else 0 : Nat) = if x.toNat < y.toNat + c.toNat then 1 else 0 := by
      by_cases hb : x.toNat < y.toNat + c.toNat
      · rw [if_pos hb]; simp [Nat.blt, show Nat.ble (x.toNat + 1) (y.toNat + c.toNat) = true from Nat.ble_eq_true_of_le hb]
      · rw [if_neg hb]
        have : Nat.blt x.toNat (y.toNat + c.toNat) = false := by
          cases hx : Nat.blt x.toNat (y.toNat + c.toNat) with
          | false => rfl
          | true => exact absurd (Nat.le_of_ble_eq_true hx) hb
        rw [this]; rfl
    rw [e2]; rfl
theorem findX_ok {P : Program} : ∀ {l : List (FuncId × Bool)} {f : FuncId} {s : Bool}, ExtOK P l → findX l f = some s → ∃ fn, P.funcs[f]? = some fn ∧ (fn.name == "runtime.NumGoroutine") = false ∧ fn.body.isNone = true ∧ Extern.findNext fn = none ∧ Extern.find fn = some (match s with | true => sub64E | false => add64Entry)
  | [], f, s, _, h => by cases h
  | (g, s') :: r, f, s, hl, h => by
    simp only [findX] at h
    split at h
    · rename_i hb
      simp at h; subst h
      have := Nat.eq_of_beq_eq_true hb; subst this
      exact hl.1
    · exact findX_ok hl.2 h
theorem callX_ok {ext : List (FuncId × Bool)} (hX : ExtOK cx.P ext) {base : FuncId → List Value → List (Ob T) → Tr (CallOut T)} (hB : CallOK { cx with call := base }) (hc : cx.call = callX ext base) : CallOK cx := by
  intro f args H out hp hok hle E w args' ha hS
  rw [hc] at hp
  unfold callX at hp
  split at hp
  · rename_i s hs
    obtain ⟨fn, h1, h2, h3, h4, h5⟩ := findX_ok hX hs
    exact .inr (extC_sound h1 h2 h3 h4 h5 hp hok ha hS)
  · exact hB f args H out hp hok hle E w args' ha hS
end
end Go.Proofs.YtlflclfhldghbaaGreatDoor.Ls
end
section
set_option maxRecDepth 100000
namespace Go.Proofs.YtlflclfhldghbaaGreatDoor.Fs
open Go Go.Proofs.YtlflclfhldghbaaGreatDoor.Ls
noncomputable section
@[reducible] def S93 : VS := .agg (.pair (.int .i64) (.pair (.int .i64) (.pair (.int .i64) .unit)))
abbrev T93 : Type := Int × Int × Int × Unit
@[reducible] def S188 : VS := .agg (.pair (.int .i64) (.pair (.int .i64) (.pair (.int .i64) .unit)))
abbrev T188 : Type := Int × Int × Int × Unit
@[reducible] def S148 : VS := .agg (.pair (.int .i64) (.pair (.int .i64) (.pair (.int .i64) .unit)))
abbrev T148 : Type := Int × Int × Int × Unit
@[reducible] def S25 : VS := .agg (.pair (.int .i64) (.pair (.int .i64) (.pair (.int .i64) (.pair (.int .i64) (.pair (.int .i64) (.pair (.int .i64) .unit))))))
abbrev T25 : Type := Int × Int × Int × Int × Int × Int × Unit
@[reducible] def S123 : VS := .agg (.pair (.int .i64) (.pair (.int .i64) (.pair (.int .i64) (.pair .bool .unit))))
abbrev T123 : Type := Int × Int × Int × Bool × Unit
@[reducible] def S23 (i : Nat) : VS := .agg (.pair (.int .i64) (.pair (.int .i64) (.pair (.int .i64) (.pair (.int .i64) (.pair (.int .i64) (.pair (.int .i64) (.pair (.int .i64) (.pair (.int .i64) (.pair (.int .i64) (.pair (.int .i64) (.pair (.int .i64) (.pair (.int .i64) (.pair (.int .i64) (.pair (.int .i64) (.pair (.int .i64) (.pair (.int .i64) (.pair (.int .i64) (.pair (.sl i) .unit))))))))))))))))))
abbrev T23 : Type := Int × Int × Int × Int × Int × Int × Int × Int × Int × Int × Int × Int × Int × Int × Int × Int × Int × Unit × Unit
@[reducible] def S193 : VS := .agg (.pair (.int .i64) (.pair (.int .u64) .unit))
abbrev T193 : Type := Int × Int × Unit
@[reducible] def S29 : VS := .agg (.pair (.int .i64) (.pair (.int .i64) (.pair (.int .i64) (.pair (.int .i64) (.pair (.int .i64) (.pair (.int .i64) (.pair (.int .i64) (.pair (.int .i64) (.pair (.int .i64) (.pair (.int .i64) (.pair (.int .i64) (.pair (.int .i64) .unit))))))))))))
abbrev T29 : Type := Int × Int × Int × Int × Int × Int × Int × Int × Int × Int × Int × Int × Unit
@[reducible] def S30 : VS := .agg (.pair S29 .unit)
abbrev T30 : Type := T29 × Unit
@[reducible] def S125 : VS := .agg (.pair (.int .i64) (.pair (.int .i64) (.pair (.int .i64) .unit)))
abbrev T125 : Type := Int × Int × Int × Unit
@[reducible] def S34 : VS := .agg (.pair (.int .i64) (.pair (.int .i64) (.pair (.int .i64) (.pair (.int .i64) (.pair (.int .i64) .unit)))))
abbrev T34 : Type := Int × Int × Int × Int × Int × Unit
@[reducible] def S115 : VS := .agg (.pair (.int .i64) (.pair (.int .i64) .unit))
abbrev T115 : Type := Int × Int × Unit
@[reducible] def S32 : VS := .agg (.pair (.int .i64) (.pair .bool (.pair (.int .i64) (.pair (.int .i64) (.pair (.int .i64) (.pair (.int .i64) (.pair (.int .i64) (.pair (.int .i64) (.pair (.int .i64) (.pair (.int .i64) (.pair (.int .i64) (.pair (.int .i64) (.pair (.int .i64) (.pair (.int .i64) (.pair (.int .i64) .unit)))))))))))))))
abbrev T32 : Type := Int × Bool × Int × Int × Int × Int × Int × Int × Int × Int × Int × Int × Int × Int × Int × Unit
@[reducible] def S201 (i : Nat) : VS := .agg (.pair (S23 i) (.pair S32 (.pair (.sl (i + 1)) .unit)))
abbrev T201 : Type := T23 × T32 × Unit × Unit
@[reducible] def S86 : VS := .agg (.pair (.int .i64) (.pair (.int .i64) (.pair (.int .i64) (.pair (.int .i64) .unit))))
abbrev T86 : Type := Int × Int × Int × Int × Unit
@[reducible] def S36 (i : Nat) : VS := .agg (.pair (.int .i64) (.pair S25 (.pair (.sl i) (.pair S30 (.pair S32 (.pair (.int .i64) (.pair (.int .i64) (.pair (.int .i64) (.pair S34 (.pair .bool (.pair (.int .i64) (.pair (.int .i64) .unit))))))))))))
abbrev T36 : Type := Int × T25 × Unit × T30 × T32 × Int × Int × Int × T34 × Bool × Int × Int × Unit
@[reducible] def S82 (i : Nat) : VS := .agg (.pair (S23 i) (.pair (S36 (i + 1)) (.pair S34 (.pair (.sl (i + 2)) .unit))))
abbrev T82 : Type := T23 × T36 × T34 × Unit × Unit
@[reducible] def S53 : VS := .agg (.pair (.int .i64) (.pair (.int .i64) (.pair (.int .i64) (.pair (.int .i64) (.pair (.int .i64) (.pair .bool .unit))))))
abbrev T53 : Type := Int × Int × Int × Int × Int × Bool × Unit
@[reducible] def S43 (i : Nat) : VS := .agg (.pair (S36 i) (.pair S34 (.pair (.sl (i + 1)) (.pair (.int .i64) .unit))))
abbrev T43 : Type := T36 × T34 × Unit × Int × Unit
@[reducible] def S58 : VS := .agg (.pair (.int .i64) (.pair (.int .i64) (.pair (.int .i64) (.pair (.int .i64) (.pair (.int .i64) .unit)))))
abbrev T58 : Type := Int × Int × Int × Int × Int × Unit
@[reducible] def TT : TypeId → VS := fun e => match Nat.beq e 3 with | true => (.int .i64) | false => match Nat.beq e 94 with | true => S93 | false => match Nat.beq e 2 with | true => (.int .i64) | false => match Nat.beq e 188 with | true => S188 | false => match Nat.beq e 124 with | true => S123 | false => match Nat.beq e 194 with | true => S193 | false => match Nat.beq e 54 with | true => S53 | false => match Nat.beq e 59 with | true => S58 | false => .any
abbrev prog : Program := Go.Proofs.Tryz.prog
def globs : Nat → Option (Ob TT) := fun g => match Nat.beq g 4 with | true => some (.row false 3 ([0, 31, 59, 90, 120, 151, 181, 212, 243, 273, 304, 334, 365] : List Int)) | false => match Nat.beq g 0 with | true => some (.row false 3 ([1, 1, 1, 1, -1, -1, -1, -1, -1, 1, -1, 1] : List Int)) | false => match Nat.beq g 3 with | true => some (.row false 188 ([(3, 2, 1, ()), (3, 1, 2, ()), (2, 3, 1, ()), (2, 1, 3, ()), (1, 3, 2, ()), (1, 2, 3, ())] : List T188)) | false => none
def reps : TypeId → Option TypeId := fun t => match Nat.beq t 31 with | true => some 2 | false => match Nat.beq t 195 with | true => some 194 | false => none
def inls : List Inl := [⟨47, 0, [], []⟩, ⟨147, 0, [], []⟩, ⟨88, 0, [], []⟩, ⟨89, 0, [], []⟩, ⟨90, 0, [], []⟩, ⟨91, 0, [], []⟩, ⟨151, 0, [], []⟩, ⟨96, 0, [], []⟩, ⟨49, 0, [], []⟩, ⟨99, 0, [], []⟩, ⟨155, 0, [], []⟩, ⟨101, 0, [], []⟩, ⟨156, 0, [], []⟩, ⟨106, 0, [], []⟩, ⟨157, 0, [], []⟩, ⟨108, 0, [], []⟩, ⟨158, 0, [], []⟩, ⟨100, 0, [], []⟩, ⟨102, 0, [], []⟩, ⟨103, 0, [], []⟩, ⟨104, 0, [], []⟩, ⟨105, 0, [], []⟩, ⟨107, 0, [], []⟩, ⟨109, 0, [], []⟩, ⟨110, 0, [], []⟩, ⟨111, 0, [], []⟩, ⟨112, 0, [], []⟩, ⟨113, 0, [], []⟩, ⟨114, 0, [], []⟩, ⟨115, 0, [], []⟩, ⟨116, 0, [], []⟩, ⟨117, 0, [], []⟩, ⟨118, 0, [], []⟩, ⟨119, 0, [], []⟩, ⟨120, 0, [], []⟩, ⟨121, 0, [], []⟩, ⟨122, 0, [], []⟩, ⟨27, 0, [], []⟩, ⟨29, 0, [], []⟩, ⟨74, 0, [], []⟩, ⟨36, 0, [], []⟩, ⟨84, 0, [], []⟩, ⟨39, 0, [], []⟩, ⟨136, 0, [], [4]⟩, ⟨139, 0, [], []⟩, ⟨141, 0, [], []⟩, ⟨142, 0, [], []⟩, ⟨140, 0, [], []⟩, ⟨178, 0, [], []⟩, ⟨179, 0, [], []⟩, ⟨180, 0, [], []⟩, ⟨153, 0, [], []⟩, ⟨81, 0, [], []⟩, ⟨137, 0, [], []⟩, ⟨134, 0, [], []⟩, ⟨63, 0, [], []⟩, ⟨194, 0, [], []⟩, ⟨195, 0, [], []⟩, ⟨210, 0, [], []⟩, ⟨197, 0, [], []⟩, ⟨199, 0, [], []⟩, ⟨198, 0, [4, 54, 62], []⟩, ⟨143, 0, [], []⟩, ⟨78, 0, [], []⟩, ⟨26, 0, [], []⟩, ⟨40, 0, [], []⟩, ⟨124, 0, [], []⟩, ⟨125, 0, [], []⟩, ⟨126, 0, [], []⟩, ⟨127, 0, [], []⟩, ⟨44, 0, [], []⟩, ⟨128, 0, [], []⟩, ⟨23, 0, [], []⟩, ⟨14, 0, [], []⟩, ⟨24, 0, [], []⟩, ⟨10, 0, [], []⟩, ⟨11, 0, [], []⟩]
def dfrs : List Dfr := [⟨⟨25, 0, [], []⟩, ⟨73, 0, [], [7, 14]⟩⟩, ⟨⟨21, 0, [], []⟩, ⟨56, 0, [], [2]⟩⟩, ⟨⟨22, 0, [], []⟩, ⟨66, 0, [], [2]⟩⟩]
def loud : List Nat := [196, 200, 167, 168, 169, 170, 171, 172, 173, 77, 30, 42, 43, 145, 83, 33, 35, 45, 46]
def exts : List (FuncId × Bool) := [(165, false), (166, true)]
def inls_lived : List Inl := [⟨19, 0, [], []⟩] ++ inls
def cxT (tbl : List (Ent TT)) : Cx TT := { P := prog, glob := globs, rep := reps, call := callX exts (callT2 globs tbl), n := 0, cuts := [], joins := [], nojoin := [], quiet := fun f => match memN f loud with | true => false | false => true, closed := [] }
def cxI (il : List Inl) (tbl : List (Ent TT)) (n : Nat) (cuts joins : List (Nat × SS)) (nojoin closed stops : List Nat) : Cx TT :=
  { P := prog, glob := globs, rep := reps, call := callD (cxT tbl) il dfrs 6, n := n, cuts := cuts, joins := joins, nojoin := nojoin, quiet := fun f => match memN f loud with | true => false | false => true, closed := closed, stops := stops }
theorem mix : prog.follows .mixedOrders = true := by kernel_rfl
theorem exts_ok : ExtOK prog exts := ⟨⟨Go.Proofs.Tryz.f165, by kernel_rfl, by kernel_rfl, by kernel_rfl, by kernel_rfl, by kernel_rfl⟩, ⟨Go.Proofs.Tryz.f166, by kernel_rfl, by kernel_rfl, by kernel_rfl, by kernel_rfl, by kernel_rfl⟩, trivial⟩
theorem inls_there : inlThere prog inls = true := by kernel_rfl
theorem dfrs_there : dfrThere prog dfrs = true := by kernel_rfl
abbrev cxB := cxI inls
theorem cxI_ok {il : List Inl} (hi : inlThere prog il = true) {tbl : List (Ent TT)} (h : TblOK prog globs tbl) (n : Nat) (cuts joins : List (Nat × SS)) (nojoin closed stops : List Nat) : CallOK (cxI il tbl n cuts joins nojoin closed stops) :=
  callD_ok (cx := cxT tbl) mix (callX_ok exts_ok (callT2_ok h rfl) rfl) hi dfrs_there 6 _ rfl rfl rfl
theorem cxB_ok {tbl : List (Ent TT)} (h : TblOK prog globs tbl) (n : Nat) (cuts joins : List (Nat × SS)) (nojoin closed stops : List Nat) : CallOK (cxB tbl n cuts joins nojoin closed stops) := cxI_ok inls_there h n cuts joins nojoin closed stops
theorem tbl_cons {f : FuncId} {g : Sig} {F : g.args.ty → tysO TT g.hp → Res TT g} {r : List (Ent TT)} (h1 : there prog f = true) (h2 : FOK prog globs f g F) (h3 : TblOK prog globs r) : TblOK prog globs (⟨f, g, F⟩ :: r) := ⟨⟨h1, h2⟩, h3⟩
@[reducible] def g_leap : Sig := { args := (.pair (.int .i64) .unit), hp := [], eff := [], ret := .bool, news := [], pan := none }
@[reducible] def g_start : Sig := { args := (.pair (.int .i64) (.pair (.int .i64) .unit)), hp := [], eff := [], ret := (.int .i64), news := [], pan := none }
@[reducible] def g_civil : Sig := { args := (.pair (.int .i64) .unit), hp := [], eff := [], ret := (.tup (.pair S148 (.pair .bool .unit))), news := [], pan := none }
@[reducible] def s_civil_15 : SS := { temps := [(2, (.ptr 0 0)), (4, (.int .i64)), (5, (.int .i64)), (9, (.int .i64))], heap := [(.flat S148)], dirty := [] }
@[reducible] def g_monthLen : Sig := { args := (.pair (.int .i64) (.pair (.int .i64) .unit)), hp := [], eff := [], ret := (.int .i64), news := [], pan := none }
@[reducible] def g_number : Sig := { args := (.pair S148 .unit), hp := [], eff := [], ret := (.tup (.pair (.int .i64) (.pair .bool .unit))), news := [], pan := none }
@[reducible] def g_addMonths : Sig := { args := (.pair (.int .i64) (.pair (.int .i64) (.pair (.int .i64) .unit))), hp := [], eff := [], ret := (.tup (.pair (.int .i64) (.pair .bool .unit))), news := [], pan := none }
@[reducible] def g_weekday : Sig := { args := (.pair (.int .i64) .unit), hp := [], eff := [], ret := (.tup (.pair (.int .i64) (.pair .bool .unit))), news := [], pan := none }
@[reducible] def g_index : Sig := { args := (.pair (.sl 0) (.pair (.int .i64) .unit)), hp := [(.row false 3)], eff := [.keep], ret := (.int .i64), news := [], pan := none }
@[reducible] def s_index_3 : SS := { temps := [(0, (.sl 0)), (1, (.int .i64)), (7, (.int .i64)), (8, (.int .i64))], heap := [(.row false 3)], dirty := [] }
@[reducible] def g_contains : Sig := { args := (.pair (.sl 0) (.pair (.int .i64) .unit)), hp := [(.row false 3)], eff := [.keep], ret := .bool, news := [], pan := none }
@[reducible] def g_business : Sig := { args := (.pair (.int .i64) (.pair (.sl 0) .unit)), hp := [(.row false 3)], eff := [.keep], ret := .bool, news := [], pan := none }
@[reducible] def g_seek : Sig := { args := (.pair (.int .i64) (.pair (.sl 0) (.pair (.int .i64) .unit))), hp := [(.row false 3)], eff := [.keep], ret := (.tup (.pair (.int .i64) (.pair .bool .unit))), news := [], pan := none }
@[reducible] def s_seek_3 : SS := { temps := [(0, (.int .i64)), (1, (.sl 0)), (2, (.int .i64)), (8, (.int .i64))], heap := [(.row false 3)], dirty := [] }
@[reducible] def g_sameMonth : Sig := { args := (.pair (.int .i64) (.pair (.int .i64) .unit)), hp := [], eff := [], ret := .bool, news := [], pan := none }
@[reducible] def g_adjust : Sig := { args := (.pair (.int .i64) (.pair (.sl 0) (.pair (.int .i64) .unit))), hp := [(.row false 3)], eff := [.keep], ret := (.tup (.pair (.int .i64) (.pair .bool .unit))), news := [], pan := none }
@[reducible] def g_mul64 : Sig := { args := (.pair (.int .u64) (.pair (.int .u64) .unit)), hp := [], eff := [], ret := (.tup (.pair (.int .u64) (.pair (.int .u64) .unit))), news := [], pan := none }
@[reducible] def g_len64 : Sig := { args := (.pair (.int .u64) .unit), hp := [], eff := [], ret := (.int .i64), news := [], pan := none }
@[reducible] def g_lz64 : Sig := { args := (.pair (.int .u64) .unit), hp := [], eff := [], ret := (.int .i64), news := [], pan := none }
@[reducible] def g_div64 : Sig := { args := (.pair (.int .u64) (.pair (.int .u64) (.pair (.int .u64) .unit))), hp := [], eff := [], ret := (.tup (.pair (.int .u64) (.pair (.int .u64) .unit))), news := [], pan := none }
@[reducible] def s_div64_18 : SS := { temps := [(2, (.int .u64)), (8, (.int .u64)), (9, (.int .u64)), (10, (.int .u64)), (11, (.int .u64)), (13, (.int .u64)), (14, (.int .u64)), (15, (.int .u64)), (16, (.int .u64))], heap := [], dirty := [] }
@[reducible] def s_div64_25 : SS := { temps := [(2, (.int .u64)), (8, (.int .u64)), (9, (.int .u64)), (10, (.int .u64)), (14, (.int .u64)), (15, (.int .u64)), (16, (.int .u64)), (17, (.int .u64)), (18, (.int .u64))], heap := [], dirty := [] }
@[reducible] def g_withSign : Sig := { args := (.pair .bool (.pair (.int .u64) .unit)), hp := [], eff := [], ret := (.tup (.pair (.int .i64) (.pair .bool .unit))), news := [], pan := none }
@[reducible] def g_mulDiv : Sig := { args := (.pair (.int .i64) (.pair (.int .i64) (.pair (.int .i64) .unit))), hp := [], eff := [], ret := (.tup (.pair (.int .i64) (.pair .bool .unit))), news := [], pan := none }
@[reducible] def g_month : Sig := { args := (.pair (.int .i64) (.pair (.int .i64) .unit)), hp := [], eff := [], ret := (.tup (.pair (.int .i64) (.pair .bool .unit))), news := [], pan := none }
@[reducible] def g_pays : Sig := { args := (.pair (.int .i64) (.pair (.int .i64) (.pair (.int .i64) (.pair (.int .i64) .unit)))), hp := [], eff := [], ret := .bool, news := [], pan := none }
@[reducible] def s_pays_3 : SS := { temps := [(0, (.int .i64)), (1, (.int .i64)), (2, (.int .i64)), (11, (.int .i64)), (12, (.int .i64))], heap := [], dirty := [] }
@[reducible] def g_least : Sig := { args := (.pair (.int .i64) (.pair (.int .i64) (.pair (.fn 147 (.pair (.ptr 0 0) (.pair (.ptr 1 0) (.pair (.ptr 2 0) .unit)))) .unit))), hp := [(.flat (.pair (.int .i64) .unit)), (.flat (.pair (.int .i64) .unit)), (.flat (.pair (.int .i64) .unit))], eff := [.keep, .keep, .keep], ret := (.int .i64), news := [], pan := none }
@[reducible] def s_least_2 : SS := { temps := [(0, (.int .i64)), (1, (.int .i64)), (2, (.fn 147 (.pair (.ptr 0 0) (.pair (.ptr 1 0) (.pair (.ptr 2 0) .unit)))))], heap := [(.flat (.pair (.int .i64) .unit)), (.flat (.pair (.int .i64) .unit)), (.flat (.pair (.int .i64) .unit))], dirty := [] }
@[reducible] def g_level : Sig := { args := (.pair (.int .i64) (.pair (.int .i64) (.pair (.int .i64) .unit))), hp := [], eff := [], ret := (.tup (.pair (.int .i64) (.pair .bool .unit))), news := [], pan := none }
@[reducible] def g_valid : Sig := { args := (.pair S25 .unit), hp := [], eff := [], ret := .bool, news := [], pan := none }
@[reducible] def g_plan : Sig := { args := (.pair S25 (.pair (.sl 0) .unit)), hp := [(.row false 3)], eff := [.keep], ret := (.tup (.pair (.sl 1) (.pair .bool .unit))), news := [(.row true 124)], pan := none }
@[reducible] def s_plan_17 : SS := { temps := [(2, (.ptr 1 0)), (7, .bool), (8, (.ptr 2 0)), (9, (.sl 3)), (10, (.int .i64))], heap := [(.row false 3), (.flat S25), (.flat (.agg (.pair S25 (.pair (.sl 0) (.pair (.int .i64) (.pair (.int .i64) (.pair (.int .i64) (.pair (.fnm 88 (.pair (.ptr 2 0) .unit)) .unit)))))))), (.row true 124)], dirty := [] }
@[reducible] def s_plan_17_1 : SS := { temps := [(2, (.ptr 1 0)), (7, .bool), (8, (.ptr 2 0)), (9, (.sl 3)), (10, (.int .i64))], heap := [(.row false 3), (.flat S25), (.flat (.agg (.pair S25 (.pair (.sl 0) (.pair (.int .i64) (.pair (.int .i64) (.pair (.int .i64) (.pair (.fnm 89 (.pair (.ptr 2 0) .unit)) .unit)))))))), (.row true 124)], dirty := [] }
@[reducible] def s_plan_17_2 : SS := { temps := [(2, (.ptr 1 0)), (7, .bool), (8, (.ptr 2 0)), (9, (.sl 3)), (10, (.int .i64))], heap := [(.row false 3), (.flat S25), (.flat (.agg (.pair S25 (.pair (.sl 0) (.pair (.int .i64) (.pair (.int .i64) (.pair (.int .i64) (.pair (.fnm 90 (.pair (.ptr 2 0) .unit)) .unit)))))))), (.row true 124)], dirty := [] }
@[reducible] def g_days : Sig := { args := (.pair (S23 0) .unit), hp := [(.row false 3)], eff := [.keep], ret := .bool, news := [], pan := none }
@[reducible] def s_days_6 : SS := { temps := [(3, (.int .i64)), (11, (.sl 0)), (12, (.int .i64)), (13, (.int .i64))], heap := [(.row false 3)], dirty := [] }
@[reducible] def g_check : Sig := { args := (.pair (S23 0) .unit), hp := [(.row false 3)], eff := [.keep], ret := (.tup (.pair (.int .i64) (.pair (.int .i64) .unit))), news := [], pan := none }
@[reducible] def g_post : Sig := { args := (.pair S30 (.pair (.sl 0) .unit)), hp := [(.row false 94)], eff := [.keep], ret := (.tup (.pair S30 (.pair (.int .i64) .unit))), news := [], pan := none }
@[reducible] def s_post_9 : SS := { temps := [(2, (.ptr 1 0)), (4, (.ptr 2 0)), (6, (.ptr 3 0)), (31, (.sl 0)), (32, (.int .i64)), (33, (.int .i64))], heap := [(.row false 94), (.row true 2), (.row true 2), (.row true 194)], dirty := [] }
@[reducible] def g_may : Sig := { args := (.pair S25 .unit), hp := [], eff := [], ret := .bool, news := [], pan := none }
@[reducible] def g_mulDivFloor : Sig := { args := (.pair (.int .i64) (.pair (.int .i64) (.pair (.int .i64) .unit))), hp := [], eff := [], ret := (.tup (.pair (.int .i64) (.pair (.int .i64) (.pair .bool .unit)))), news := [], pan := none }
@[reducible] def g_span : Sig := { args := (.pair (.int .i64) (.pair (.int .i64) (.pair (.int .i64) (.pair (.int .i64) .unit)))), hp := [], eff := [], ret := (.tup (.pair (.int .i64) (.pair (.int .i64) (.pair .bool .unit)))), news := [], pan := none }
@[reducible] def g_msum : Sig := { args := (.pair (.sl 0) .unit), hp := [(.row false 2)], eff := [.keep], ret := (.tup (.pair (.int .i64) (.pair .bool .unit))), news := [], pan := none }
@[reducible] def s_msum_4 : SS := { temps := [(4, (.int .u64)), (5, (.int .u64)), (9, (.sl 0)), (10, (.int .i64)), (11, (.int .i64))], heap := [(.row false 2)], dirty := [] }
@[reducible] def g_lateFee : Sig := { args := (.pair (S23 0) (.pair (.int .i64) .unit)), hp := [(.row false 3)], eff := [.keep], ret := (.int .i64), news := [], pan := none }
@[reducible] def g_assess : Sig := { args := (.pair (S23 0) (.pair (.int .i64) (.pair (.int .i64) (.pair (.int .i64) .unit)))), hp := [(.row false 3)], eff := [.keep], ret := (.int .i64), news := [], pan := none }
@[reducible] def g_allocate : Sig := { args := (.pair (.int .i64) (.pair S125 (.pair (.int .i64) .unit))), hp := [], eff := [], ret := (.tup (.pair S34 (.pair (.int .i64) .unit))), news := [], pan := none }
@[reducible] def g_recover_ : Sig := { args := (.pair (.int .i64) (.pair (.int .i64) .unit)), hp := [], eff := [], ret := (.tup (.pair S34 (.pair (.int .i64) .unit))), news := [], pan := none }
@[reducible] def g_some_ : Sig := { args := (.pair (.sl 0) .unit), hp := [(.row false 94)], eff := [.keep], ret := (.sl 1), news := [(.row true 94)], pan := none }
@[reducible] def s_some__4 : SS := { temps := [(3, (.sl 1)), (6, (.sl 0)), (7, (.int .i64)), (8, (.int .i64))], heap := [(.row false 94), (.row true 94)], dirty := [] }
@[reducible] def g_entries : Sig := { args := (.pair S34 .unit), hp := [], eff := [], ret := (.sl 0), news := [(.row true 94)], pan := none }
@[reducible] def g_undo : Sig := { args := (.pair S34 .unit), hp := [], eff := [], ret := (.sl 0), news := [(.row true 94)], pan := none }
@[reducible] def s_undo_4 : SS := { temps := [(3, (.sl 0)), (8, (.sl 0)), (9, (.int .i64)), (10, (.int .i64))], heap := [(.row true 94)], dirty := [] }
@[reducible] def g_sound : Sig := { args := (.pair (.sl 0) .unit), hp := [(.row false 124)], eff := [.keep], ret := .bool, news := [], pan := none }
@[reducible] def s_sound_6 : SS := { temps := [(3, .bool), (4, (.int .i64)), (5, (.sl 1)), (14, (.sl 0)), (15, (.int .i64)), (16, (.int .i64))], heap := [(.row false 124), (.row true 2)], dirty := [] }
@[reducible] def g_front : Sig := { args := (.pair (.sl 0) (.pair S115 .unit)), hp := [(.row false 124)], eff := [.keep], ret := (.int .i64), news := [], pan := none }
@[reducible] def s_front_6 : SS := { temps := [(0, (.sl 0)), (5, (.int .i64)), (17, (.int .i64)), (18, (.int .i64))], heap := [(.row false 124)], dirty := [] }
@[reducible] def g_oldest : Sig := { args := (.pair (.sl 0) (.pair S115 .unit)), hp := [(.row false 124)], eff := [.keep], ret := (.tup (.pair (.int .i64) (.pair .bool .unit))), news := [], pan := none }
@[reducible] def g_adays : Sig := { args := (.pair (.sl 0) (.pair S115 (.pair (.int .i64) .unit))), hp := [(.row false 124)], eff := [.keep], ret := (.int .i64), news := [], pan := none }
@[reducible] def g_apast : Sig := { args := (.pair (.sl 0) (.pair S115 (.pair (.int .i64) .unit))), hp := [(.row false 124)], eff := [.keep], ret := (.int .i64), news := [], pan := none }
@[reducible] def s_apast_9 : SS := { temps := [(2, (.int .i64)), (4, (.ptr 1 0)), (9, (.int .i64)), (44, (.sl 0)), (45, (.int .i64)), (46, (.int .i64))], heap := [(.row false 124), (.flat S115)], dirty := [] }
@[reducible] def g_missed : Sig := { args := (.pair (.sl 0) (.pair S115 (.pair (.int .i64) (.pair (.int .i64) .unit)))), hp := [(.row false 124)], eff := [.keep], ret := (.sl 1), news := [(.row true 3)], pan := none }
@[reducible] def s_missed_7 : SS := { temps := [(0, (.sl 0)), (2, (.int .i64)), (3, (.int .i64)), (11, (.sl 1)), (12, (.int .i64))], heap := [(.row false 124), (.row true 3)], dirty := [] }
@[reducible] def g_mark : Sig := { args := (.pair (.sl 0) (.pair (.sl 1) .unit)), hp := [(.row false 124), (.row false 3)], eff := [.keep, .keep], ret := (.sl 2), news := [(.row true 124)], pan := none }
@[reducible] def s_mark_4 : SS := { temps := [(5, (.sl 2)), (10, (.sl 1)), (11, (.int .i64)), (12, (.int .i64))], heap := [(.row false 124), (.row false 3), (.row true 124)], dirty := [] }
@[reducible] def g_mback : Sig := { args := (.pair (.ptr 0 0) .unit), hp := [(.flat (S201 1)), (.row false 3), (.row false 3)], eff := [.upd, .keep, .keep], ret := (.tup .unit), news := [], pan := none }
@[reducible] def g_mend : Sig := { args := (.pair (.ptr 0 0) (.pair (.int .i64) (.pair (.int .i64) .unit))), hp := [(.flat (S201 1)), (.row false 3), (.row true 3)], eff := [.upd, .keep, .kill], ret := (.tup .unit), news := [(.row true 3)], pan := none, hpo := [(.flat (.agg (.pair (S23 1) (.pair S32 (.pair (.sl 3) .unit))))), (.row false 3), (.row true 3)] }
@[reducible] def g_mage : Sig := { args := (.pair (.ptr 0 0) (.pair S86 .unit)), hp := [(.flat (S201 1)), (.row false 3), (.row true 3)], eff := [.upd, .keep, .kill], ret := (.int .i64), news := [(.row true 3)], pan := none, hpo := [(.flat (.agg (.pair (S23 1) (.pair S32 (.pair (.sl 3) .unit))))), (.row false 3), (.row true 3)] }
@[reducible] def s_mage_10 : SS := { temps := [(0, (.ptr 0 0)), (3, (.ptr 3 0))], heap := [(.flat (S201 1)), (.row false 3), (.row true 3), (.flat S86)], dirty := [0, 2] }
@[reducible] def s_mage_15 : SS := { temps := [(0, (.ptr 0 0)), (3, (.ptr 3 0))], heap := [(.flat (S201 1)), (.row false 3), (.row true 3), (.flat S86)], dirty := [0, 2] }
@[reducible] def s_mage_17 : SS := { temps := [(0, (.ptr 0 0)), (3, (.ptr 3 0))], heap := [(.flat (S201 1)), (.row false 3), (.row true 3), (.flat S86)], dirty := [0, 2] }
@[reducible] def s_mage_21 : SS := { temps := [(0, (.ptr 0 0)), (3, (.ptr 3 0))], heap := [(.flat (S201 1)), (.row false 3), (.row true 3), (.flat S86)], dirty := [0, 2] }
@[reducible] def s_mage_22 : SS := { temps := [(0, (.ptr 0 0)), (3, (.ptr 3 0))], heap := [(.flat (S201 1)), (.row false 3), (.row true 3), (.flat S86)], dirty := [0, 2] }
@[reducible] def g_mpaid : Sig := { args := (.pair (.ptr 0 0) (.pair S86 .unit)), hp := [(.flat (S201 1)), (.row false 3), (.row true 3)], eff := [.upd, .keep, .kill], ret := (.int .i64), news := [(.row true 3)], pan := none, hpo := [(.flat (.agg (.pair (S23 1) (.pair S32 (.pair (.sl 3) .unit))))), (.row false 3), (.row true 3)] }
@[reducible] def s_mpaid_15 : SS := { temps := [(0, (.ptr 0 0)), (3, (.ptr 3 0))], heap := [(.flat (S201 1)), (.row false 3), (.row true 3), (.flat S86)], dirty := [0, 2] }
@[reducible] def s_mpaid_17 : SS := { temps := [(0, (.ptr 0 0)), (3, (.ptr 3 0))], heap := [(.flat (S201 1)), (.row false 3), (.row true 3), (.flat S86)], dirty := [0, 2] }
@[reducible] def g_mreturned : Sig := { args := (.pair (.ptr 0 0) (.pair S86 .unit)), hp := [(.flat (S201 1)), (.row false 3), (.row true 3)], eff := [.upd, .keep, .kill], ret := (.int .i64), news := [(.row true 3)], pan := none, hpo := [(.flat (.agg (.pair (S23 1) (.pair S32 (.pair (.sl 3) .unit))))), (.row false 3), (.row true 3)] }
@[reducible] def g_mpromise : Sig := { args := (.pair (.ptr 0 0) (.pair S86 .unit)), hp := [(.flat (S201 1)), (.row false 3), (.row true 3)], eff := [.upd, .keep, .kill], ret := (.int .i64), news := [(.row true 3)], pan := none, hpo := [(.flat (.agg (.pair (S23 1) (.pair S32 (.pair (.sl 3) .unit))))), (.row false 3), (.row true 3)] }
@[reducible] def g_mrestructure : Sig := { args := (.pair (.ptr 0 0) (.pair S86 .unit)), hp := [(.flat (S201 1)), (.row false 3), (.row true 3)], eff := [.upd, .keep, .kill], ret := (.int .i64), news := [(.row true 3)], pan := none, hpo := [(.flat (.agg (.pair (S23 1) (.pair S32 (.pair (.sl 3) .unit))))), (.row false 3), (.row true 3)] }
@[reducible] def g_mfee : Sig := { args := (.pair (.ptr 0 0) (.pair S86 .unit)), hp := [(.flat (S201 1)), (.row false 3), (.row true 3)], eff := [.upd, .keep, .kill], ret := (.int .i64), news := [(.row true 3)], pan := none, hpo := [(.flat (.agg (.pair (S23 1) (.pair S32 (.pair (.sl 3) .unit))))), (.row false 3), (.row true 3)] }
@[reducible] def g_mclose : Sig := { args := (.pair (.ptr 0 0) (.pair S86 .unit)), hp := [(.flat (S201 1)), (.row false 3), (.row true 3)], eff := [.upd, .keep, .kill], ret := (.int .i64), news := [(.row true 3)], pan := none, hpo := [(.flat (.agg (.pair (S23 1) (.pair S32 (.pair (.sl 3) .unit))))), (.row false 3), (.row true 3)] }
@[reducible] def g_step : Sig := { args := (.pair (S23 0) (.pair S32 (.pair S86 .unit))), hp := [(.row false 3)], eff := [.keep], ret := (.tup (.pair S32 (.pair (.sl 1) (.pair (.int .i64) .unit)))), news := [(.row true 3)], pan := none }
@[reducible] def g_lbal : Sig := { args := (.pair S30 (.pair (.int .i64) .unit)), hp := [], eff := [], ret := (.tup (.pair (.int .i64) (.pair (.int .i64) .unit))), news := [], pan := none }
@[reducible] def g_indF : Sig := { args := (.pair (.sl 0) (.pair (.fn 78 .unit) .unit)), hp := [(.row false 94)], eff := [.keep], ret := (.int .i64), news := [], pan := none }
@[reducible] def s_indF_3 : SS := { temps := [(0, (.sl 0)), (1, (.fn 78 .unit)), (7, (.int .i64)), (8, (.int .i64))], heap := [(.row false 94)], dirty := [] }
@[reducible] def g_delF : Sig := { args := (.pair (.sl 0) (.pair (.fn 78 .unit) .unit)), hp := [(.row true 94)], eff := [.upd], ret := (.gsl 0), news := [], pan := none }
@[reducible] def s_delF_6 : SS := { temps := [(0, (.sl 0)), (1, (.fn 78 .unit)), (5, (.int .i64)), (6, (.int .i64))], heap := [(.row true 94)], dirty := [0] }
@[reducible] def g_balance : Sig := { args := (.pair (S36 0) (.pair (.int .i64) .unit)), hp := [(.row false 124)], eff := [.keep], ret := (.int .i64), news := [], pan := some (.iface 134 (.agg (.pair (.int .i64) .unit))) }
@[reducible] def g_owed : Sig := { args := (.pair (S36 0) .unit), hp := [(.row false 124)], eff := [.keep], ret := S125, news := [], pan := some (.iface 134 (.agg (.pair (.int .i64) .unit))) }
@[reducible] def g_position : Sig := { args := (.pair (S36 0) .unit), hp := [(.row false 124)], eff := [.keep], ret := S115, news := [], pan := some (.iface 134 (.agg (.pair (.int .i64) .unit))) }
@[reducible] def g_over : Sig := { args := (.pair (S36 0) .unit), hp := [(.row false 124)], eff := [.keep], ret := .bool, news := [], pan := none }
@[reducible] def g_move : Sig := { args := (.pair (.ptr 0 0) (.pair (.sl 4) .unit)), hp := [(.flat (S82 1)), (.row false 3), (.row false 124), (.row false 54), (.row true 94)], eff := [.upd, .keep, .keep, .keep, .kill], ret := (.tup .unit), news := [], pan := some (.iface 134 (.agg (.pair (.int .i64) .unit))) }
@[reducible] def g_note : Sig := { args := (.pair (.ptr 0 0) (.pair (.int .i64) (.pair (.int .i64) .unit))), hp := [(.flat (S82 1)), (.row false 3), (.row false 124), (.row true 54)], eff := [.upd, .keep, .keep, .kill], ret := (.tup .unit), news := [(.row true 54)], pan := none, hpo := [(.flat (.agg (.pair (S23 1) (.pair (S36 2) (.pair S34 (.pair (.sl 4) .unit)))))), (.row false 3), (.row false 124), (.row true 54)] }
@[reducible] def g_forget : Sig := { args := (.pair (.ptr 0 0) .unit), hp := [(.flat (S82 1)), (.row false 3), (.row false 124), (.row false 54)], eff := [.upd, .keep, .keep, .keep], ret := (.tup .unit), news := [], pan := none }
@[reducible] def g_pdays : Sig := { args := (.pair (.ptr 0 0) .unit), hp := [(.flat (S82 1)), (.row false 3), (.row false 124), (.row false 54)], eff := [.keep, .keep, .keep, .keep], ret := (.int .i64), news := [], pan := some (.iface 134 (.agg (.pair (.int .i64) .unit))) }
@[reducible] def g_pastDue : Sig := { args := (.pair (.ptr 0 0) .unit), hp := [(.flat (S82 1)), (.row false 3), (.row false 124), (.row false 54)], eff := [.keep, .keep, .keep, .keep], ret := (.int .i64), news := [], pan := some (.iface 134 (.agg (.pair (.int .i64) .unit))) }
@[reducible] def g_chargeOff : Sig := { args := (.pair (.ptr 0 0) .unit), hp := [(.flat (S82 1)), (.row false 3), (.row false 124), (.row true 54)], eff := [.upd, .keep, .keep, .kill], ret := (.tup .unit), news := [(.row true 54)], pan := some (.iface 134 (.agg (.pair (.int .i64) .unit))), hpo := [(.flat (.agg (.pair (S23 1) (.pair (S36 2) (.pair S34 (.pair (.sl 4) .unit)))))), (.row false 3), (.row false 124), (.row true 54)] }
@[reducible] def g_act : Sig := { args := (.pair (.ptr 0 0) (.pair (.int .i64) .unit)), hp := [(.flat (S82 1)), (.row false 3), (.row false 124), (.row true 54)], eff := [.upd, .keep, .keep, .kill], ret := (.tup .unit), news := [(.row true 54)], pan := some (.iface 134 (.agg (.pair (.int .i64) .unit))), hpo := [(.flat (.agg (.pair (S23 1) (.pair (S36 2) (.pair S34 (.pair (.sl 4) .unit)))))), (.row false 3), (.row false 124), (.row true 54)] }
@[reducible] def g_play : Sig := { args := (.pair (.ptr 0 0) (.pair S86 .unit)), hp := [(.flat (S82 1)), (.row false 3), (.row false 124), (.row true 54)], eff := [.upd, .keep, .keep, .kill], ret := (.tup .unit), news := [(.row true 54)], pan := some (.iface 134 (.agg (.pair (.int .i64) .unit))), hpo := [(.flat (.agg (.pair (S23 1) (.pair (S36 2) (.pair S34 (.pair (.sl 4) .unit)))))), (.row false 3), (.row false 124), (.row true 54)] }
@[reducible] def s_play_6 : SS := { temps := [(0, (.ptr 0 0)), (31, (.sl 4)), (32, (.int .i64)), (33, (.int .i64))], heap := [(.flat (S82 1)), (.row false 3), (.row false 124), (.row true 54), (.row true 3)], dirty := [0, 3] }
@[reducible] def g_settle : Sig := { args := (.pair (.ptr 0 0) .unit), hp := [(.flat (S82 1)), (.row false 3), (.row false 124), (.row true 54)], eff := [.upd, .keep, .keep, .kill], ret := (.tup .unit), news := [(.row true 54)], pan := some (.iface 134 (.agg (.pair (.int .i64) .unit))), hpo := [(.flat (.agg (.pair (S23 1) (.pair (S36 2) (.pair S34 (.pair (.sl 4) .unit)))))), (.row false 3), (.row false 124), (.row true 54)] }
@[reducible] def g_accrue : Sig := { args := (.pair (.ptr 0 0) (.pair (.int .i64) .unit)), hp := [(.flat (S82 1)), (.row false 3), (.row false 124), (.row false 54)], eff := [.upd, .keep, .keep, .keep], ret := (.tup .unit), news := [], pan := some (.iface 134 (.agg (.pair (.int .i64) .unit))) }
@[reducible] def g_charge : Sig := { args := (.pair (.ptr 0 0) .unit), hp := [(.flat (S82 1)), (.row false 3), (.row true 124), (.row true 54)], eff := [.upd, .keep, .kill, .kill], ret := (.tup .unit), news := [(.row true 124), (.row true 54)], pan := some (.iface 134 (.agg (.pair (.int .i64) .unit))), hpo := [(.flat (.agg (.pair (S23 1) (.pair (S36 4) (.pair S34 (.pair (.sl 5) .unit)))))), (.row false 3), (.row true 124), (.row true 54)] }
@[reducible] def s_charge_4 : SS := { temps := [(0, (.ptr 0 0)), (2, (.sl 4)), (44, (.sl 4)), (45, (.int .i64)), (46, (.int .i64))], heap := [(.flat (S82 1)), (.row false 3), (.row true 124), (.row true 54), (.row true 3)], dirty := [0, 2, 3] }
@[reducible] def g_take : Sig := { args := (.pair (.ptr 0 0) (.pair (.int .i64) .unit)), hp := [(.flat (S82 1)), (.row false 3), (.row false 124), (.row false 54)], eff := [.keep, .keep, .keep, .keep], ret := (.tup (.pair S34 (.pair (.int .i64) .unit))), news := [], pan := some (.iface 134 (.agg (.pair (.int .i64) .unit))) }
@[reducible] def g_open : Sig := { args := (.pair (S23 0) (.pair (.int .i64) (.pair S25 .unit))), hp := [(.row false 3)], eff := [.keep], ret := (S43 1), news := [(.row true 124), (.row true 54)], pan := none }
@[reducible] def g_pay : Sig := { args := (.pair (S23 0) (.pair (S36 1) (.pair (.int .i64) .unit))), hp := [(.row false 3), (.row false 124)], eff := [.keep, .keep], ret := (S43 2), news := [(.row true 124), (.row true 54)], pan := none }
@[reducible] def g_return_ : Sig := { args := (.pair (S23 0) (.pair (S36 1) .unit)), hp := [(.row false 3), (.row false 124)], eff := [.keep, .keep], ret := (S43 2), news := [(.row true 124), (.row true 54)], pan := none }
@[reducible] def g_refund : Sig := { args := (.pair (S23 0) (.pair (S36 1) (.pair (.int .i64) .unit))), hp := [(.row false 3), (.row false 124)], eff := [.keep, .keep], ret := (S43 2), news := [(.row true 124), (.row true 54)], pan := none }
@[reducible] def g_waive : Sig := { args := (.pair (S23 0) (.pair (S36 1) (.pair (.int .i64) .unit))), hp := [(.row false 3), (.row false 124)], eff := [.keep, .keep], ret := (S43 2), news := [(.row true 124), (.row true 54)], pan := none }
@[reducible] def g_promise : Sig := { args := (.pair (S23 0) (.pair (S36 1) (.pair (.int .i64) (.pair (.int .i64) .unit)))), hp := [(.row false 3), (.row false 124)], eff := [.keep, .keep], ret := (S43 2), news := [(.row true 124), (.row true 54)], pan := none }
@[reducible] def g_restructure : Sig := { args := (.pair (S23 0) (.pair (S36 1) (.pair (.int .i64) (.pair (.int .i64) .unit)))), hp := [(.row false 3), (.row false 124)], eff := [.keep, .keep], ret := (S43 2), news := [(.row true 124), (.row true 54)], pan := none }
@[reducible] def g_roll : Sig := { args := (.pair (S23 0) (.pair (S36 1) .unit)), hp := [(.row false 3), (.row false 124)], eff := [.keep, .keep], ret := (S43 2), news := [(.row true 124), (.row true 54)], pan := none }
@[reducible] def g_accrueC : Sig := { args := (.pair (S23 0) (.pair (S36 1) (.pair (.int .i64) .unit))), hp := [(.row false 3), (.row false 124)], eff := [.keep, .keep], ret := (S43 2), news := [(.row true 124), (.row true 54)], pan := none }
@[reducible] def g_samePlan : Sig := { args := (.pair (.sl 0) (.pair (.sl 1) .unit)), hp := [(.row false 124), (.row false 124)], eff := [.keep, .keep], ret := .bool, news := [], pan := none }
@[reducible] def s_samePlan_5 : SS := { temps := [(0, (.sl 0)), (1, (.sl 1)), (5, (.int .i64))], heap := [(.row false 124), (.row false 124)], dirty := [] }
@[reducible] def g_sameLoan : Sig := { args := (.pair (S36 0) (.pair (S36 1) .unit)), hp := [(.row false 124), (.row false 124)], eff := [.keep, .keep], ret := .bool, news := [], pan := none }
@[reducible] def g_call : Sig := { args := (.pair (S23 0) (.pair (S36 1) (.pair S58 .unit))), hp := [(.row false 3), (.row false 124)], eff := [.keep, .keep], ret := (S43 2), news := [(.row true 124), (.row true 54)], pan := none }
@[reducible] def g_works : Sig := { args := .unit, hp := [], eff := [], ret := .bool, news := [], pan := none }
@[reducible] def s_works_2 : SS := { temps := [], heap := [], dirty := [] }
@[reducible] def s_works_3 : SS := { temps := [(1, (.ptr 0 0)), (2, (.ptr 1 0))], heap := [(.flat (S23 2)), (.flat S25), (.row true 3)], dirty := [] }
@[reducible] def s_works_4 : SS := { temps := [(1, (.ptr 0 0)), (3, (.ptr 1 0))], heap := [(.flat (S23 2)), (.flat (.agg (.pair (S36 3) (.pair S34 (.pair (.sl 4) (.pair (.int .i64) .unit)))))), (.row true 3), (.row true 124), (.row true 54)], dirty := [] }
@[reducible] def s_works_5 : SS := { temps := [(1, (.ptr 0 0)), (3, (.ptr 1 0)), (4, (.ptr 2 0))], heap := [(.flat (S23 3)), (.flat (.agg (.pair (S36 4) (.pair S34 (.pair (.sl 5) (.pair (.int .i64) .unit)))))), (.flat (.agg (.pair (S36 6) (.pair S34 (.pair (.sl 7) (.pair (.int .i64) .unit)))))), (.row true 3), (.row true 124), (.row true 54), (.row true 124), (.row true 54)], dirty := [] }
@[reducible] def g_lived : Sig := { args := (.pair (S23 0) (.pair (.int .i64) (.pair S25 (.pair (.sl 1) .unit)))), hp := [(.row false 3), (.row false 59)], eff := [.keep, .keep], ret := (.tup (.pair (S36 2) (.pair .bool .unit))), news := [(.row true 124)], pan := none }
@[reducible] def s_lived_7 : SS := { temps := [(3, (.sl 1)), (4, (.ptr 2 0)), (8, (.ptr 3 0)), (11, (.ptr 4 0)), (12, (.int .i64))], heap := [(.row false 3), (.row false 59), (.flat (S23 0)), (.flat (S36 5)), (.flat (S36 6)), (.row true 124), (.row true 124)], dirty := [] }
@[reducible] def s_lived_10 : SS := { temps := [(3, (.sl 1)), (4, (.ptr 2 0)), (8, (.ptr 3 0)), (11, (.ptr 4 0)), (12, (.int .i64)), (13, (.int .i64))], heap := [(.row false 3), (.row false 59), (.flat (S23 0)), (.flat (S36 5)), (.flat (S36 6)), (.row true 124), (.row true 124)], dirty := [] }
@[reducible] def s_lived_12 : SS := { temps := [(3, (.sl 1)), (4, (.ptr 2 0)), (8, (.ptr 3 0)), (11, (.ptr 4 0)), (12, (.int .i64)), (13, (.int .i64))], heap := [(.row false 3), (.row false 59), (.flat (S23 0)), (.flat (S36 5)), (.flat (S36 6)), (.row true 124), (.row true 124)], dirty := [] }
@[reducible] def g_loanPolicies : Sig := { args := (.pair (S23 0) (.pair (.int .i64) (.pair S25 (.pair (.sl 1) (.pair (S23 2) (.pair S58 .unit)))))), hp := [(.row false 3), (.row false 59), (.row false 3)], eff := [.keep, .keep, .keep], ret := .bool, news := [], pan := none }
@[reducible] def s_loanPolicies_6 : SS := { temps := [(1, (.int .i64)), (8, (.ptr 3 0)), (10, (.ptr 4 0)), (11, (.ptr 5 0)), (13, (.ptr 6 0))], heap := [(.row false 3), (.row false 59), (.row false 3), (.flat S25), (.flat (S23 2)), (.flat S58), (.flat (S36 7)), (.row true 124)], dirty := [] }
@[reducible] def s_loanPolicies_9 : SS := { temps := [(1, (.int .i64)), (8, (.ptr 3 0)), (10, (.ptr 4 0)), (13, (.ptr 5 0))], heap := [(.row false 3), (.row false 59), (.row false 3), (.flat S25), (.flat (S23 2)), (.flat (S36 6)), (.row true 124)], dirty := [] }
@[reducible] def s_loanPolicies_10 : SS := { temps := [(10, (.ptr 3 0)), (13, (.ptr 4 0)), (18, (.ptr 5 0))], heap := [(.row false 3), (.row false 59), (.row false 3), (.flat (S23 2)), (.flat (S36 6)), (.flat (.agg (.pair (S36 7) (.pair S34 (.pair (.sl 8) (.pair (.int .i64) .unit)))))), (.row true 124), (.row true 124), (.row true 54)], dirty := [] }
@[reducible] def g_has : Sig := { args := (.pair (.sl 0) (.pair (.int .i64) .unit)), hp := [(.row false 54)], eff := [.keep], ret := .bool, news := [], pan := none }
@[reducible] def s_has_3 : SS := { temps := [(0, (.sl 0)), (1, (.int .i64)), (5, (.int .i64))], heap := [(.row false 54)], dirty := [] }
@[reducible] def g_loanPaid : Sig := { args := (.pair (S23 0) (.pair (.int .i64) (.pair S25 (.pair (.sl 1) (.pair (.int .i64) .unit))))), hp := [(.row false 3), (.row false 59)], eff := [.keep, .keep], ret := .bool, news := [], pan := none }
@[reducible] def g_loanTakenBack : Sig := { args := (.pair (S23 0) (.pair (.int .i64) (.pair S25 (.pair (.sl 1) (.pair (.int .i64) .unit))))), hp := [(.row false 3), (.row false 59)], eff := [.keep, .keep], ret := .bool, news := [], pan := none }
@[reducible] def g_loanInterest : Sig := { args := (.pair (S23 0) (.pair (.int .i64) (.pair S25 (.pair (.sl 1) (.pair (.int .i64) .unit))))), hp := [(.row false 3), (.row false 59)], eff := [.keep, .keep], ret := .bool, news := [], pan := none }
@[reducible] def s_loanInterest_7 : SS := { temps := [(4, (.int .i64)), (5, (.ptr 2 0)), (11, (.ptr 3 0)), (13, (.ptr 4 0)), (14, (.int .i64))], heap := [(.row false 3), (.row false 59), (.flat (S23 0)), (.flat (S36 5)), (.flat (S36 5)), (.row true 124)], dirty := [] }
@[reducible] def s_loanInterest_7_1 : SS := { temps := [(4, (.int .i64)), (5, (.ptr 2 0)), (11, (.ptr 3 0)), (13, (.ptr 4 0)), (14, (.int .i64))], heap := [(.row false 3), (.row false 59), (.flat (S23 0)), (.flat (S36 5)), (.flat (S36 6)), (.row true 124), (.row true 124)], dirty := [] }
end
end Go.Proofs.YtlflclfhldghbaaGreatDoor.Fs
end
section
set_option maxRecDepth 100000
namespace Go.Proofs.YtlflclfhldghbaaGreatDoor.Fs
open Go Go.Proofs.YtlflclfhldghbaaGreatDoor.Ls
noncomputable def tbl0 : List (Ent TT) := []
theorem tbl0_ok : TblOK prog globs tbl0 := trivial
noncomputable def C_leap : Cx TT := cxB tbl0 Go.Proofs.Tryz.f174.ntmps [] [] [] [] []
noncomputable def k_leap (a : g_leap.args.ty) (h : tysO TT g_leap.hp) : Nat := 0
noncomputable def F_leap : g_leap.args.ty → tysO TT g_leap.hp → Res TT g_leap := fun a h => bodyG C_leap g_leap Go.Proofs.Tryz.f174 [] (k_leap a h) a h
theorem F_leap_ok : FOK prog globs 174 g_leap F_leap :=
  bodyG_sound (cx := C_leap) mix (cxB_ok tbl0_ok _ _ _ _ _ _) (f := 174) (fn := Go.Proofs.Tryz.f174) (by kernel_rfl) (by kernel_rfl) (by kernel_rfl) (by kernel_rfl) _
theorem F_leap_eq (year : Int) : F_leap (year, ()) () =
  let x0 := (bif decide (year < 1) then true else (bif decide (year > 9999) then true else true))
  (bif (bif decide (year < 1) then true else (bif decide (year > 9999) then true else ((year.tmod (4 : Int)) != 0))) then ⟨x0, false, false, (), ()⟩ else ⟨(bif ((year.tmod (100 : Int)) != 0) then x0 else x0), false, (bif ((year.tmod (100 : Int)) != 0) then true else ((year.tmod (400 : Int)) == 0)), (), ()⟩) := by kernel_rfl
noncomputable def tbl1 : List (Ent TT) := ⟨174, g_leap, F_leap⟩ :: tbl0
theorem tbl1_ok : TblOK prog globs tbl1 := tbl_cons (by kernel_rfl) F_leap_ok tbl0_ok
noncomputable def C_start : Cx TT := cxB tbl1 Go.Proofs.Tryz.f146.ntmps [] [] [] [] []
noncomputable def k_start (a : g_start.args.ty) (h : tysO TT g_start.hp) : Nat := 0
noncomputable def F_start : g_start.args.ty → tysO TT g_start.hp → Res TT g_start := fun a h => bodyG C_start g_start Go.Proofs.Tryz.f146 [] (k_start a h) a h
theorem F_start_ok : FOK prog globs 146 g_start F_start :=
  bodyG_sound (cx := C_start) mix (cxB_ok tbl1_ok _ _ _ _ _ _) (f := 146) (fn := Go.Proofs.Tryz.f146) (by kernel_rfl) (by kernel_rfl) (by kernel_rfl) (by kernel_rfl) _
theorem F_start_eq (year : Int) (month : Int) : F_start (year, month, ()) () =
  let x0 := (bif decide (month > 2) then ((F_leap (year, ()) ()).ret : Bool) else false)
  let x1 := [(0 : Int), (31 : Int), (59 : Int), (90 : Int), (120 : Int), (151 : Int), (181 : Int), (212 : Int), (243 : Int), (273 : Int), (304 : Int), (334 : Int), (365 : Int)]
  let x2 := ((decide (0 ≤ (IntKind.i64.wrap (month - 1))) && decide ((IntKind.i64.wrap (month - 1)) < ((13 : Nat) : Int))) && (Nat.blt ((IntKind.i64.wrap (month - 1)).toNat) x1.length))
  let x3 := (bif decide (month > 2) then (x2 && (F_leap (year, ()) ()).ok) else x2)
  let x4 := (x1.getD ((IntKind.i64.wrap (month - 1)).toNat) (0 : Int))
  ⟨(bif x0 then x3 else x3), false, (bif x0 then (IntKind.i64.wrap (x4 + 1)) else x4), (), ()⟩ := by kernel_rfl
noncomputable def tbl2 : List (Ent TT) := ⟨146, g_start, F_start⟩ :: tbl1
theorem tbl2_ok : TblOK prog globs tbl2 := tbl_cons (by kernel_rfl) F_start_ok tbl1_ok
noncomputable def C_civil : Cx TT := cxB tbl2 Go.Proofs.Tryz.f86.ntmps [(15, s_civil_15)] [] [] [] []
noncomputable def k_civil (a : g_civil.args.ty) (h : tysO TT g_civil.hp) : Nat := 200
noncomputable def F_civil : g_civil.args.ty → tysO TT g_civil.hp → Res TT g_civil := fun a h => bodyG C_civil g_civil Go.Proofs.Tryz.f86 [] (k_civil a h) a h
theorem F_civil_ok : FOK prog globs 86 g_civil F_civil :=
  bodyG_sound (cx := C_civil) mix (cxB_ok tbl2_ok _ _ _ _ _ _) (f := 86) (fn := Go.Proofs.Tryz.f86) (by kernel_rfl) (by kernel_rfl) (by kernel_rfl) (by kernel_rfl) _
noncomputable def L_civil_15 (k : Nat) (v : s_civil_15.ty TT) : Res TT g_civil := loopG C_civil g_civil Go.Proofs.Tryz.f86 [] k (todoF Go.Proofs.Tryz.f86 15) (SS.st s_civil_15 0 v)
theorem F_civil_eq (day : Int) : F_civil (day, ()) () =
  let x0 := (if (3 < (IntKind.i64.wrap (((IntKind.i64.wrap (day - 1)).tmod (146097 : Int)).tdiv (36524 : Int)))) then (3 : Int) else (IntKind.i64.wrap (((IntKind.i64.wrap (day - 1)).tmod (146097 : Int)).tdiv (36524 : Int))))
  let x1 := (IntKind.i64.wrap (((IntKind.i64.wrap (day - 1)).tmod (146097 : Int)) - (IntKind.i64.wrap (x0 * 36524))))
  let x2 := (x1.tmod (1461 : Int))
  let x3 := (IntKind.i64.wrap (x2.tdiv (365 : Int)))
  let x4 := (if (3 < x3) then (3 : Int) else x3)
  let x5 := (L_civil_15 (k_civil (day, ()) ()) (((), (IntKind.i64.wrap (x2 - (IntKind.i64.wrap (x4 * 365)))), (IntKind.i64.wrap ((IntKind.i64.wrap ((IntKind.i64.wrap (400 * (IntKind.i64.wrap ((IntKind.i64.wrap (day - 1)).tdiv (146097 : Int))))) + 1)) + (IntKind.i64.wrap ((IntKind.i64.wrap ((IntKind.i64.wrap (100 * x0)) + (IntKind.i64.wrap (4 * (IntKind.i64.wrap (x1.tdiv (1461 : Int))))))) + x4)))), (1 : Int), ()), ((0 : Int), (0 : Int), (0 : Int), ()), ()))
  (bif (bif decide (day < 1) then true else decide (day > 3652059)) then ⟨(bif decide (day < 1) then true else true), false, (((0 : Int), (0 : Int), (0 : Int), ()), false, ()), (), ()⟩ else ⟨((bif decide (day < 1) then true else true) && x5.ok), x5.pan, x5.ret, x5.out, x5.pv⟩) := by kernel_rfl
theorem L_civil_15_eq (k : Nat) (left : Int) (year : Int) (month : Int) (t2 : T148) : L_civil_15 (k + 1) (((), left, year, month, ()), (t2, ())) =
  let x0 := (bif decide (month < 12) then (F_start (year, (IntKind.i64.wrap (month + 1)), ()) ()).ok else true)
  let x1 := (L_civil_15 k (((), left, year, (IntKind.i64.wrap (month + 1)), ()), t2, ()))
  (bif (bif decide (month < 12) then decide (left ≥ ((F_start (year, (IntKind.i64.wrap (month + 1)), ()) ()).ret : Int)) else false) then ⟨(x0 && x1.ok), x1.pan, x1.ret, x1.out, x1.pv⟩ else ⟨(x0 && (F_start (year, month, ()) ()).ok), false, ((year, month, (IntKind.i64.wrap ((IntKind.i64.wrap (left - ((F_start (year, month, ()) ()).ret : Int))) + 1)), ()), true, ()), (), ()⟩) := by kernel_rfl
noncomputable def tbl3 : List (Ent TT) := ⟨86, g_civil, F_civil⟩ :: tbl2
theorem tbl3_ok : TblOK prog globs tbl3 := tbl_cons (by kernel_rfl) F_civil_ok tbl2_ok
noncomputable def C_monthLen : Cx TT := cxB tbl3 Go.Proofs.Tryz.f202.ntmps [] [] [] [] []
noncomputable def k_monthLen (a : g_monthLen.args.ty) (h : tysO TT g_monthLen.hp) : Nat := 0
noncomputable def F_monthLen : g_monthLen.args.ty → tysO TT g_monthLen.hp → Res TT g_monthLen := fun a h => bodyG C_monthLen g_monthLen Go.Proofs.Tryz.f202 [] (k_monthLen a h) a h
theorem F_monthLen_ok : FOK prog globs 202 g_monthLen F_monthLen :=
  bodyG_sound (cx := C_monthLen) mix (cxB_ok tbl3_ok _ _ _ _ _ _) (f := 202) (fn := Go.Proofs.Tryz.f202) (by kernel_rfl) (by kernel_rfl) (by kernel_rfl) (by kernel_rfl) _
theorem F_monthLen_eq (year : Int) (month : Int) : F_monthLen (year, month, ()) () =
  let x0 := (bif decide (year < 1) then true else (bif decide (year > 9999) then true else (bif decide (month < 1) then true else true)))
  let x1 := [(0 : Int), (31 : Int), (59 : Int), (90 : Int), (120 : Int), (151 : Int), (181 : Int), (212 : Int), (243 : Int), (273 : Int), (304 : Int), (334 : Int), (365 : Int)]
  let x2 := x1.length
  let x3 := ((((x0 && (decide (0 ≤ month) && decide (month < ((13 : Nat) : Int)))) && (Nat.blt month.toNat x2)) && (decide (0 ≤ (IntKind.i64.wrap (month - 1))) && decide ((IntKind.i64.wrap (month - 1)) < ((13 : Nat) : Int)))) && (Nat.blt ((IntKind.i64.wrap (month - 1)).toNat) x2))
  let x4 := (bif (month == 2) then (x3 && (F_leap (year, ()) ()).ok) else x3)
  let x5 := (IntKind.i64.wrap ((x1.getD month.toNat (0 : Int)) - (x1.getD ((IntKind.i64.wrap (month - 1)).toNat) (0 : Int))))
  (bif (bif decide (year < 1) then true else (bif decide (year > 9999) then true else (bif decide (month < 1) then true else decide (month > 12)))) then ⟨x0, false, (0 : Int), (), ()⟩ else ⟨(bif (bif (month == 2) then ((F_leap (year, ()) ()).ret : Bool) else false) then x4 else x4), false, (bif (bif (month == 2) then ((F_leap (year, ()) ()).ret : Bool) else false) then (IntKind.i64.wrap (x5 + 1)) else x5), (), ()⟩) := by kernel_rfl
noncomputable def tbl4 : List (Ent TT) := ⟨202, g_monthLen, F_monthLen⟩ :: tbl3
theorem tbl4_ok : TblOK prog globs tbl4 := tbl_cons (by kernel_rfl) F_monthLen_ok tbl3_ok
noncomputable def C_number : Cx TT := cxB tbl4 Go.Proofs.Tryz.f201.ntmps [] [] [] [] []
noncomputable def k_number (a : g_number.args.ty) (h : tysO TT g_number.hp) : Nat := 0
noncomputable def F_number : g_number.args.ty → tysO TT g_number.hp → Res TT g_number := fun a h => bodyG C_number g_number Go.Proofs.Tryz.f201 [] (k_number a h) a h
theorem F_number_ok : FOK prog globs 201 g_number F_number :=
  bodyG_sound (cx := C_number) mix (cxB_ok tbl4_ok _ _ _ _ _ _) (f := 201) (fn := Go.Proofs.Tryz.f201) (by kernel_rfl) (by kernel_rfl) (by kernel_rfl) (by kernel_rfl) _
theorem F_number_eq (d : T148) : F_number (d, ()) () =
  let x0 := (bif decide (d.2.2.1 < 1) then true else (F_monthLen (d.1, d.2.1, ()) ()).ok)
  let x1 := (bif decide (d.2.1 > 2) then ((F_leap (d.1, ()) ()).ret : Bool) else false)
  let x2 := [(0 : Int), (31 : Int), (59 : Int), (90 : Int), (120 : Int), (151 : Int), (181 : Int), (212 : Int), (243 : Int), (273 : Int), (304 : Int), (334 : Int), (365 : Int)]
  let x3 := ((x0 && (decide (0 ≤ (IntKind.i64.wrap (d.2.1 - 1))) && decide ((IntKind.i64.wrap (d.2.1 - 1)) < ((13 : Nat) : Int)))) && (Nat.blt ((IntKind.i64.wrap (d.2.1 - 1)).toNat) x2.length))
  let x4 := (bif decide (d.2.1 > 2) then (x3 && (F_leap (d.1, ()) ()).ok) else x3)
  let x5 := (IntKind.i64.wrap ((IntKind.i64.wrap ((IntKind.i64.wrap ((IntKind.i64.wrap ((IntKind.i64.wrap ((IntKind.i64.wrap (365 * (IntKind.i64.wrap (d.1 - 1)))) + (IntKind.i64.wrap ((IntKind.i64.wrap (d.1 - 1)).tdiv (4 : Int))))) - (IntKind.i64.wrap ((IntKind.i64.wrap (d.1 - 1)).tdiv (100 : Int))))) + (IntKind.i64.wrap ((IntKind.i64.wrap (d.1 - 1)).tdiv (400 : Int))))) + (x2.getD ((IntKind.i64.wrap (d.2.1 - 1)).toNat) (0 : Int)))) + d.2.2.1))
  (bif (bif decide (d.2.2.1 < 1) then true else decide (d.2.2.1 > ((F_monthLen (d.1, d.2.1, ()) ()).ret : Int))) then ⟨x0, false, ((0 : Int), false, ()), (), ()⟩ else ⟨(bif x1 then x4 else x4), false, ((bif x1 then (IntKind.i64.wrap (x5 + 1)) else x5), true, ()), (), ()⟩) := by kernel_rfl
noncomputable def tbl5 : List (Ent TT) := ⟨201, g_number, F_number⟩ :: tbl4
theorem tbl5_ok : TblOK prog globs tbl5 := tbl_cons (by kernel_rfl) F_number_ok tbl4_ok
noncomputable def C_addMonths : Cx TT := cxB tbl5 Go.Proofs.Tryz.f176.ntmps [] [] [] [] []
noncomputable def k_addMonths (a : g_addMonths.args.ty) (h : tysO TT g_addMonths.hp) : Nat := 0
noncomputable def F_addMonths : g_addMonths.args.ty → tysO TT g_addMonths.hp → Res TT g_addMonths := fun a h => bodyG C_addMonths g_addMonths Go.Proofs.Tryz.f176 [] (k_addMonths a h) a h
theorem F_addMonths_ok : FOK prog globs 176 g_addMonths F_addMonths :=
  bodyG_sound (cx := C_addMonths) mix (cxB_ok tbl5_ok _ _ _ _ _ _) (f := 176) (fn := Go.Proofs.Tryz.f176) (by kernel_rfl) (by kernel_rfl) (by kernel_rfl) (by kernel_rfl) _
theorem F_addMonths_eq (day : Int) (months : Int) (anchor : Int) : F_addMonths (day, months, anchor, ()) () =
  let x0 := (bif (!(((F_civil (day, ()) ()).ret : (Int × Int × Int × Unit) × Bool × Unit).2).1) then (F_civil (day, ()) ()).ok else (bif decide (anchor < 1) then (F_civil (day, ()) ()).ok else (bif decide (anchor > 31) then (F_civil (day, ()) ()).ok else (bif decide (months ≤ (-119988)) then (F_civil (day, ()) ()).ok else (F_civil (day, ()) ()).ok))))
  let x1 := (IntKind.i64.wrap ((IntKind.i64.wrap ((IntKind.i64.wrap ((IntKind.i64.wrap (12 * (((F_civil (day, ()) ()).ret : (Int × Int × Int × Unit) × Bool × Unit).1).1)) + ((((F_civil (day, ()) ()).ret : (Int × Int × Int × Unit) × Bool × Unit).1).2).1)) - 13)) + months))
  let x2 := decide (x1 < 0)
  let x3 := (bif x2 then x0 else x0)
  let x4 := (IntKind.i64.wrap ((IntKind.i64.wrap (x1.tdiv (12 : Int))) + 1))
  let x5 := (IntKind.i64.wrap ((x1.tmod (12 : Int)) + 1))
  let x6 := (F_monthLen (x4, x5, ()) ())
  let x7 := (x6.ret : Int)
  let x8 := (F_number ((x4, x5, (if (x7 < anchor) then x7 else anchor), ()), ()) ())
  (bif (bif (!(((F_civil (day, ()) ()).ret : (Int × Int × Int × Unit) × Bool × Unit).2).1) then true else (bif decide (anchor < 1) then true else (bif decide (anchor > 31) then true else (bif decide (months ≤ (-119988)) then true else decide (months ≥ 119988))))) then ⟨x0, false, ((0 : Int), false, ()), (), ()⟩ else (bif (bif x2 then true else decide (x1 ≥ 119988)) then ⟨x3, false, ((0 : Int), false, ()), (), ()⟩ else ⟨((x3 && x6.ok) && x8.ok), false, x8.ret, (), ()⟩)) := by kernel_rfl
noncomputable def tbl6 : List (Ent TT) := ⟨176, g_addMonths, F_addMonths⟩ :: tbl5
theorem tbl6_ok : TblOK prog globs tbl6 := tbl_cons (by kernel_rfl) F_addMonths_ok tbl5_ok
noncomputable def C_weekday : Cx TT := cxB tbl6 Go.Proofs.Tryz.f213.ntmps [] [] [] [] []
noncomputable def k_weekday (a : g_weekday.args.ty) (h : tysO TT g_weekday.hp) : Nat := 0
noncomputable def F_weekday : g_weekday.args.ty → tysO TT g_weekday.hp → Res TT g_weekday := fun a h => bodyG C_weekday g_weekday Go.Proofs.Tryz.f213 [] (k_weekday a h) a h
theorem F_weekday_ok : FOK prog globs 213 g_weekday F_weekday :=
  bodyG_sound (cx := C_weekday) mix (cxB_ok tbl6_ok _ _ _ _ _ _) (f := 213) (fn := Go.Proofs.Tryz.f213) (by kernel_rfl) (by kernel_rfl) (by kernel_rfl) (by kernel_rfl) _
theorem F_weekday_eq (day : Int) : F_weekday (day, ()) () =
  (bif (bif decide (day < 1) then true else decide (day > 3652059)) then ⟨(bif decide (day < 1) then true else true), false, ((0 : Int), false, ()), (), ()⟩ else ⟨(bif decide (day < 1) then true else true), false, ((IntKind.i64.wrap (((IntKind.i64.wrap (day - 1)).tmod (7 : Int)) + 1)), true, ()), (), ()⟩) := by kernel_rfl
noncomputable def tbl7 : List (Ent TT) := ⟨213, g_weekday, F_weekday⟩ :: tbl6
theorem tbl7_ok : TblOK prog globs tbl7 := tbl_cons (by kernel_rfl) F_weekday_ok tbl6_ok
noncomputable def C_index : Cx TT := cxB tbl7 Go.Proofs.Tryz.f215.ntmps [(3, s_index_3)] [] [] [] []
noncomputable def k_index (a : g_index.args.ty) (h : tysO TT g_index.hp) : Nat := h.1.length + 2
noncomputable def F_index : g_index.args.ty → tysO TT g_index.hp → Res TT g_index := fun a h => bodyG C_index g_index Go.Proofs.Tryz.f215 [] (k_index a h) a h
theorem F_index_ok : FOK prog globs 215 g_index F_index :=
  bodyG_sound (cx := C_index) mix (cxB_ok tbl7_ok _ _ _ _ _ _) (f := 215) (fn := Go.Proofs.Tryz.f215) (by kernel_rfl) (by kernel_rfl) (by kernel_rfl) (by kernel_rfl) _
noncomputable def L_index_3 (k : Nat) (v : s_index_3.ty TT) : Res TT g_index := loopG C_index g_index Go.Proofs.Tryz.f215 [] k (todoF Go.Proofs.Tryz.f215 3) (SS.st s_index_3 0 v)
theorem F_index_eq (v_ : Int) (s : List Int) : F_index ((), v_, ()) (s, ()) =
  (L_index_3 (k_index ((), v_, ()) (s, ())) (((), v_, ((s.length : Nat) : Int), (0 : Int), ()), s, ())) := by kernel_rfl
theorem L_index_3_eq (k : Nat) (v_ : Int) (t7 : Int) (t8 : Int) (s : List Int) : L_index_3 (k + 1) (((), v_, t7, t8, ()), (s, ())) =
  let x0 := ((decide (0 ≤ t8) && decide (t8 < ((s.length : Nat) : Int))) && (Nat.blt t8.toNat s.length))
  let x1 := (L_index_3 k (((), v_, t7, (IntKind.i64.wrap (t8 + 1)), ()), s, ()))
  (bif decide (t8 < t7) then (bif (v_ == (s.getD t8.toNat (0 : Int))) then ⟨x0, false, t8, ((), ()), ()⟩ else ⟨(x0 && x1.ok), x1.pan, x1.ret, x1.out, x1.pv⟩) else ⟨true, false, (-1 : Int), ((), ()), ()⟩) := by kernel_rfl
noncomputable def tbl8 : List (Ent TT) := ⟨215, g_index, F_index⟩ :: tbl7
theorem tbl8_ok : TblOK prog globs tbl8 := tbl_cons (by kernel_rfl) F_index_ok tbl7_ok
noncomputable def C_contains : Cx TT := cxB tbl8 Go.Proofs.Tryz.f214.ntmps [] [] [] [] []
noncomputable def k_contains (a : g_contains.args.ty) (h : tysO TT g_contains.hp) : Nat := 0
noncomputable def F_contains : g_contains.args.ty → tysO TT g_contains.hp → Res TT g_contains := fun a h => bodyG C_contains g_contains Go.Proofs.Tryz.f214 [] (k_contains a h) a h
theorem F_contains_ok : FOK prog globs 214 g_contains F_contains :=
  bodyG_sound (cx := C_contains) mix (cxB_ok tbl8_ok _ _ _ _ _ _) (f := 214) (fn := Go.Proofs.Tryz.f214) (by kernel_rfl) (by kernel_rfl) (by kernel_rfl) (by kernel_rfl) _
theorem F_contains_eq (v_ : Int) (s : List Int) : F_contains ((), v_, ()) (s, ()) =
  ⟨(F_index ((), v_, ()) (s, ())).ok, false, decide (((F_index ((), v_, ()) (s, ())).ret : Int) ≥ 0), ((), ()), ()⟩ := by kernel_rfl
noncomputable def tbl9 : List (Ent TT) := ⟨214, g_contains, F_contains⟩ :: tbl8
theorem tbl9_ok : TblOK prog globs tbl9 := tbl_cons (by kernel_rfl) F_contains_ok tbl8_ok
noncomputable def C_business : Cx TT := cxB tbl9 Go.Proofs.Tryz.f211.ntmps [] [] [] [] []
noncomputable def k_business (a : g_business.args.ty) (h : tysO TT g_business.hp) : Nat := 0
noncomputable def F_business : g_business.args.ty → tysO TT g_business.hp → Res TT g_business := fun a h => bodyG C_business g_business Go.Proofs.Tryz.f211 [] (k_business a h) a h
theorem F_business_ok : FOK prog globs 211 g_business F_business :=
  bodyG_sound (cx := C_business) mix (cxB_ok tbl9_ok _ _ _ _ _ _) (f := 211) (fn := Go.Proofs.Tryz.f211) (by kernel_rfl) (by kernel_rfl) (by kernel_rfl) (by kernel_rfl) _
theorem F_business_eq (day : Int) (holidays : List Int) : F_business (day, (), ()) (holidays, ()) =
  ⟨(bif (((F_weekday (day, ()) ()).ret : Int × Bool × Unit).2).1 then (bif decide (((F_weekday (day, ()) ()).ret : Int × Bool × Unit).1 ≤ 5) then ((F_weekday (day, ()) ()).ok && (F_contains ((), day, ()) (holidays, ())).ok) else (F_weekday (day, ()) ()).ok) else (F_weekday (day, ()) ()).ok), false, (bif (((F_weekday (day, ()) ()).ret : Int × Bool × Unit).2).1 then (bif decide (((F_weekday (day, ()) ()).ret : Int × Bool × Unit).1 ≤ 5) then (!((F_contains ((), day, ()) (holidays, ())).ret : Bool)) else false) else false), ((), ()), ()⟩ := by kernel_rfl
noncomputable def tbl10 : List (Ent TT) := ⟨211, g_business, F_business⟩ :: tbl9
theorem tbl10_ok : TblOK prog globs tbl10 := tbl_cons (by kernel_rfl) F_business_ok tbl9_ok
noncomputable def C_seek : Cx TT := cxB tbl10 Go.Proofs.Tryz.f203.ntmps [(3, s_seek_3)] [] [] [] []
noncomputable def k_seek (a : g_seek.args.ty) (h : tysO TT g_seek.hp) : Nat := 200
noncomputable def F_seek : g_seek.args.ty → tysO TT g_seek.hp → Res TT g_seek := fun a h => bodyG C_seek g_seek Go.Proofs.Tryz.f203 [] (k_seek a h) a h
theorem F_seek_ok : FOK prog globs 203 g_seek F_seek :=
  bodyG_sound (cx := C_seek) mix (cxB_ok tbl10_ok _ _ _ _ _ _) (f := 203) (fn := Go.Proofs.Tryz.f203) (by kernel_rfl) (by kernel_rfl) (by kernel_rfl) (by kernel_rfl) _
noncomputable def L_seek_3 (k : Nat) (v : s_seek_3.ty TT) : Res TT g_seek := loopG C_seek g_seek Go.Proofs.Tryz.f203 [] k (todoF Go.Proofs.Tryz.f203 3) (SS.st s_seek_3 0 v)
theorem F_seek_eq (day : Int) (step : Int) (holidays : List Int) : F_seek (day, (), step, ()) (holidays, ()) =
  (L_seek_3 (k_seek (day, (), step, ()) (holidays, ())) ((day, (), step, (0 : Int), ()), holidays, ())) := by kernel_rfl
theorem L_seek_3_eq (k : Nat) (day : Int) (step : Int) (t8 : Int) (holidays : List Int) : L_seek_3 (k + 1) ((day, (), step, t8, ()), (holidays, ())) =
  let x0 := (L_seek_3 k (((IntKind.i64.wrap (day + step)), (), step, (IntKind.i64.wrap (t8 + 1)), ()), holidays, ()))
  (bif decide (t8 < 11) then (bif ((F_business (day, (), ()) (holidays, ())).ret : Bool) then ⟨(F_business (day, (), ()) (holidays, ())).ok, false, (day, true, ()), ((), ()), ()⟩ else ⟨((F_business (day, (), ()) (holidays, ())).ok && x0.ok), x0.pan, x0.ret, x0.out, x0.pv⟩) else ⟨true, false, ((0 : Int), false, ()), ((), ()), ()⟩) := by kernel_rfl
noncomputable def tbl11 : List (Ent TT) := ⟨203, g_seek, F_seek⟩ :: tbl10
theorem tbl11_ok : TblOK prog globs tbl11 := tbl_cons (by kernel_rfl) F_seek_ok tbl10_ok
noncomputable def C_sameMonth : Cx TT := cxB tbl11 Go.Proofs.Tryz.f204.ntmps [] [] [] [] []
noncomputable def k_sameMonth (a : g_sameMonth.args.ty) (h : tysO TT g_sameMonth.hp) : Nat := 0
noncomputable def F_sameMonth : g_sameMonth.args.ty → tysO TT g_sameMonth.hp → Res TT g_sameMonth := fun a h => bodyG C_sameMonth g_sameMonth Go.Proofs.Tryz.f204 [] (k_sameMonth a h) a h
theorem F_sameMonth_ok : FOK prog globs 204 g_sameMonth F_sameMonth :=
  bodyG_sound (cx := C_sameMonth) mix (cxB_ok tbl11_ok _ _ _ _ _ _) (f := 204) (fn := Go.Proofs.Tryz.f204) (by kernel_rfl) (by kernel_rfl) (by kernel_rfl) (by kernel_rfl) _
theorem F_sameMonth_eq (a_ : Int) (b : Int) : F_sameMonth (a_, b, ()) () =
  ⟨((F_civil (a_, ()) ()).ok && (F_civil (b, ()) ()).ok), false, (((((F_civil (a_, ()) ()).ret : (Int × Int × Int × Unit) × Bool × Unit).1).1 == (((F_civil (b, ()) ()).ret : (Int × Int × Int × Unit) × Bool × Unit).1).1) && ((((((F_civil (a_, ()) ()).ret : (Int × Int × Int × Unit) × Bool × Unit).1).2).1 == ((((F_civil (b, ()) ()).ret : (Int × Int × Int × Unit) × Bool × Unit).1).2).1) && ((1 : Int) == (1 : Int)))), (), ()⟩ := by kernel_rfl
noncomputable def tbl12 : List (Ent TT) := ⟨204, g_sameMonth, F_sameMonth⟩ :: tbl11
theorem tbl12_ok : TblOK prog globs tbl12 := tbl_cons (by kernel_rfl) F_sameMonth_ok tbl11_ok
noncomputable def C_adjust : Cx TT := cxB tbl12 Go.Proofs.Tryz.f177.ntmps [] [] [] [] []
noncomputable def k_adjust (a : g_adjust.args.ty) (h : tysO TT g_adjust.hp) : Nat := 0
noncomputable def F_adjust : g_adjust.args.ty → tysO TT g_adjust.hp → Res TT g_adjust := fun a h => bodyG C_adjust g_adjust Go.Proofs.Tryz.f177 [] (k_adjust a h) a h
theorem F_adjust_ok : FOK prog globs 177 g_adjust F_adjust :=
  bodyG_sound (cx := C_adjust) mix (cxB_ok tbl12_ok _ _ _ _ _ _) (f := 177) (fn := Go.Proofs.Tryz.f177) (by kernel_rfl) (by kernel_rfl) (by kernel_rfl) (by kernel_rfl) _
theorem F_adjust_eq (day : Int) (rule : Int) (holidays : List Int) : F_adjust (day, (), rule, ()) (holidays, ()) =
  let x0 := (⟨(bif decide (day < 1) then true else true), false, ((0 : Int), false, ()), ((), ()), ()⟩ : Res TT g_adjust)
  let x1 := ((bif decide (day < 1) then true else true) && (F_seek (day, (), (1 : Int), ()) (holidays, ())).ok)
  let x2 := ((F_seek (day, (), (1 : Int), ()) (holidays, ())).ret : Int × Bool × Unit)
  let x3 := (F_seek (day, (), (-1 : Int), ()) (holidays, ())).ok
  let x4 := ((F_seek (day, (), (-1 : Int), ()) (holidays, ())).ret : Int × Bool × Unit)
  let x5 := x2.2.1
  let x6 := x2.1
  let x7 := (F_sameMonth (day, x6, ()) ())
  let x8 := (bif x5 then (x1 && x7.ok) else x1)
  (bif (bif decide (day < 1) then true else decide (day > 3652059)) then x0 else (bif (rule == 0) then ⟨(bif decide (day < 1) then true else true), false, (day, true, ()), ((), ()), ()⟩ else (bif (rule == 1) then ⟨x1, false, x2, ((), ()), ()⟩ else (bif (rule == 2) then ⟨((bif decide (day < 1) then true else true) && x3), false, x4, ((), ()), ()⟩ else (bif (rule == 3) then (bif (bif x5 then (x7.ret : Bool) else false) then ⟨x8, false, (x6, true, ()), ((), ()), ()⟩ else ⟨(x8 && x3), false, x4, ((), ()), ()⟩) else x0))))) := by kernel_rfl
noncomputable def tbl13 : List (Ent TT) := ⟨177, g_adjust, F_adjust⟩ :: tbl12
theorem tbl13_ok : TblOK prog globs tbl13 := tbl_cons (by kernel_rfl) F_adjust_ok tbl12_ok
noncomputable def C_mul64 : Cx TT := cxB tbl13 Go.Proofs.Tryz.f95.ntmps [] [] [] [] []
noncomputable def k_mul64 (a : g_mul64.args.ty) (h : tysO TT g_mul64.hp) : Nat := 0
noncomputable def F_mul64 : g_mul64.args.ty → tysO TT g_mul64.hp → Res TT g_mul64 := fun a h => bodyG C_mul64 g_mul64 Go.Proofs.Tryz.f95 [] (k_mul64 a h) a h
theorem F_mul64_ok : FOK prog globs 95 g_mul64 F_mul64 :=
  bodyG_sound (cx := C_mul64) mix (cxB_ok tbl13_ok _ _ _ _ _ _) (f := 95) (fn := Go.Proofs.Tryz.f95) (by kernel_rfl) (by kernel_rfl) (by kernel_rfl) (by kernel_rfl) _
theorem F_mul64_eq (x : Int) (y : Int) : F_mul64 (x, y, ()) () =
  let x0 := (IntKind.u64.wrap ((((y % (((2 ^ 64) : Nat) : Int)).toNat &&& (4294967295 % (((2 ^ 64) : Nat) : Int)).toNat) : Nat) : Int))
  let x1 := (IntKind.u64.wrap ((((x % (((2 ^ 64) : Nat) : Int)).toNat &&& (4294967295 % (((2 ^ 64) : Nat) : Int)).toNat) : Nat) : Int))
  let x2 := (IntKind.u64.wrap ((IntKind.u64.wrap ((x.fdiv (2 ^ (min ((32 : Int).toNat) 64))) * x0)) + ((IntKind.u64.wrap (x1 * x0)).fdiv (2 ^ (min ((32 : Int).toNat) 64)))))
  ⟨true, false, ((IntKind.u64.wrap ((IntKind.u64.wrap ((IntKind.u64.wrap ((x.fdiv (2 ^ (min ((32 : Int).toNat) 64))) * (y.fdiv (2 ^ (min ((32 : Int).toNat) 64))))) + (x2.fdiv (2 ^ (min ((32 : Int).toNat) 64))))) + ((IntKind.u64.wrap ((IntKind.u64.wrap ((((x2 % (((2 ^ 64) : Nat) : Int)).toNat &&& (4294967295 % (((2 ^ 64) : Nat) : Int)).toNat) : Nat) : Int)) + (IntKind.u64.wrap (x1 * (y.fdiv (2 ^ (min ((32 : Int).toNat) 64))))))).fdiv (2 ^ (min ((32 : Int).toNat) 64))))), (IntKind.u64.wrap (x * y)), ()), (), ()⟩ := by kernel_rfl
noncomputable def tbl14 : List (Ent TT) := ⟨95, g_mul64, F_mul64⟩ :: tbl13
theorem tbl14_ok : TblOK prog globs tbl14 := tbl_cons (by kernel_rfl) F_mul64_ok tbl13_ok
noncomputable def C_len64 : Cx TT := cxB tbl14 Go.Proofs.Tryz.f181.ntmps [] [] [] [] []
noncomputable def k_len64 (a : g_len64.args.ty) (h : tysO TT g_len64.hp) : Nat := 0
noncomputable def F_len64 : g_len64.args.ty → tysO TT g_len64.hp → Res TT g_len64 := fun a h => bodyG C_len64 g_len64 Go.Proofs.Tryz.f181 [] (k_len64 a h) a h
theorem F_len64_ok : FOK prog globs 181 g_len64 F_len64 :=
  bodyG_sound (cx := C_len64) mix (cxB_ok tbl14_ok _ _ _ _ _ _) (f := 181) (fn := Go.Proofs.Tryz.f181) (by kernel_rfl) (by kernel_rfl) (by kernel_rfl) (by kernel_rfl) _
noncomputable def tbl15 : List (Ent TT) := ⟨181, g_len64, F_len64⟩ :: tbl14
theorem tbl15_ok : TblOK prog globs tbl15 := tbl_cons (by kernel_rfl) F_len64_ok tbl14_ok
noncomputable def C_lz64 : Cx TT := cxB tbl15 Go.Proofs.Tryz.f154.ntmps [] [] [] [] []
noncomputable def k_lz64 (a : g_lz64.args.ty) (h : tysO TT g_lz64.hp) : Nat := 0
noncomputable def F_lz64 : g_lz64.args.ty → tysO TT g_lz64.hp → Res TT g_lz64 := fun a h => bodyG C_lz64 g_lz64 Go.Proofs.Tryz.f154 [] (k_lz64 a h) a h
theorem F_lz64_ok : FOK prog globs 154 g_lz64 F_lz64 :=
  bodyG_sound (cx := C_lz64) mix (cxB_ok tbl15_ok _ _ _ _ _ _) (f := 154) (fn := Go.Proofs.Tryz.f154) (by kernel_rfl) (by kernel_rfl) (by kernel_rfl) (by kernel_rfl) _
noncomputable def tbl16 : List (Ent TT) := ⟨154, g_lz64, F_lz64⟩ :: tbl15
theorem tbl16_ok : TblOK prog globs tbl16 := tbl_cons (by kernel_rfl) F_lz64_ok tbl15_ok
noncomputable def C_div64 : Cx TT := cxB tbl16 Go.Proofs.Tryz.f97.ntmps [(18, s_div64_18), (25, s_div64_25)] [] [] [] []
noncomputable def k_div64 (a : g_div64.args.ty) (h : tysO TT g_div64.hp) : Nat := 200
noncomputable def F_div64 : g_div64.args.ty → tysO TT g_div64.hp → Res TT g_div64 := fun a h => bodyG C_div64 g_div64 Go.Proofs.Tryz.f97 [] (k_div64 a h) a h
theorem F_div64_ok : FOK prog globs 97 g_div64 F_div64 :=
  bodyG_sound (cx := C_div64) mix (cxB_ok tbl16_ok _ _ _ _ _ _) (f := 97) (fn := Go.Proofs.Tryz.f97) (by kernel_rfl) (by kernel_rfl) (by kernel_rfl) (by kernel_rfl) _
noncomputable def L_div64_18 (k : Nat) (v : s_div64_18.ty TT) : Res TT g_div64 := loopG C_div64 g_div64 Go.Proofs.Tryz.f97 [] k (todoF Go.Proofs.Tryz.f97 18) (SS.st s_div64_18 0 v)
noncomputable def L_div64_25 (k : Nat) (v : s_div64_25.ty TT) : Res TT g_div64 := loopG C_div64 g_div64 Go.Proofs.Tryz.f97 [] k (todoF Go.Proofs.Tryz.f97 25) (SS.st s_div64_25 0 v)
theorem F_div64_eq (hi : Int) (lo : Int) (y : Int) : F_div64 (hi, lo, y, ()) () =
  let x0 := (IntKind.u64.wrap (64 - (IntKind.u64.wrap ((F_lz64 (y, ()) ()).ret : Int))))
  let x1 := (2 ^ (min ((IntKind.u64.wrap ((F_lz64 (y, ()) ()).ret : Int)).toNat) 64))
  let x2 := (IntKind.u64.wrap (y * x1))
  let x3 := (x2.fdiv (2 ^ (min ((32 : Int).toNat) 64)))
  let x4 := (IntKind.u64.wrap (((((IntKind.u64.wrap (hi * x1)) % (((2 ^ 64) : Nat) : Int)).toNat ||| ((lo.fdiv (2 ^ (min x0.toNat 64))) % (((2 ^ 64) : Nat) : Int)).toNat) : Nat) : Int))
  let x5 := (IntKind.u64.wrap (lo * x1))
  let x6 := (IntKind.u64.wrap (x4.tdiv x3))
  let x7 := (L_div64_18 (k_div64 (hi, lo, y, ()) ()) ((x2, (IntKind.u64.wrap ((F_lz64 (y, ()) ()).ret : Int)), x3, (IntKind.u64.wrap ((((x2 % (((2 ^ 64) : Nat) : Int)).toNat &&& (4294967295 % (((2 ^ 64) : Nat) : Int)).toNat) : Nat) : Int)), x4, (x5.fdiv (2 ^ (min ((32 : Int).toNat) 64))), (IntKind.u64.wrap ((((x5 % (((2 ^ 64) : Nat) : Int)).toNat &&& (4294967295 % (((2 ^ 64) : Nat) : Int)).toNat) : Nat) : Int)), x6, (IntKind.u64.wrap (x4 - (IntKind.u64.wrap (x6 * x3)))), ()), ()))
  (bif (y == 0) then ⟨false, false, ((0 : Int), (0 : Int), ()), (), ()⟩ else (bif decide (y ≤ hi) then ⟨false, false, ((0 : Int), (0 : Int), ()), (), ()⟩ else (bif (hi == 0) then ⟨((y != 0) && (y != 0)), false, ((IntKind.u64.wrap (lo.tdiv y)), (lo.tmod y), ()), (), ()⟩ else ⟨(((((((F_lz64 (y, ()) ()).ok && decide (0 ≤ (IntKind.u64.wrap ((F_lz64 (y, ()) ()).ret : Int)))) && decide (0 ≤ (IntKind.u64.wrap ((F_lz64 (y, ()) ()).ret : Int)))) && decide (0 ≤ x0)) && decide (0 ≤ (IntKind.u64.wrap ((F_lz64 (y, ()) ()).ret : Int)))) && (x3 != 0)) && x7.ok), x7.pan, x7.ret, x7.out, x7.pv⟩))) := by kernel_rfl
theorem L_div64_18_eq (k : Nat) (y : Int) (s : Int) (yn1 : Int) (yn0 : Int) (un32 : Int) (un1 : Int) (un0 : Int) (q1 : Int) (rhat : Int) : L_div64_18 (k + 1) ((y, s, yn1, yn0, un32, un1, un0, q1, rhat, ()), ()) =
  let x0 := (IntKind.u64.wrap ((IntKind.u64.wrap ((IntKind.u64.wrap (un32 * 4294967296)) + un1)) - (IntKind.u64.wrap ((IntKind.u64.wrap (q1 - 1)) * y))))
  let x1 := (IntKind.u64.wrap (x0.tdiv yn1))
  let x2 := (L_div64_25 k ((y, s, yn1, yn0, un0, (IntKind.u64.wrap (q1 - 1)), (IntKind.u64.wrap (x0 - (IntKind.u64.wrap (x1 * yn1)))), x0, x1, ()), ()))
  let x3 := (L_div64_18 k ((y, s, yn1, yn0, un32, un1, un0, (IntKind.u64.wrap (q1 - 1)), (IntKind.u64.wrap (rhat + yn1)), ()), ()))
  let x4 := (IntKind.u64.wrap ((IntKind.u64.wrap ((IntKind.u64.wrap (un32 * 4294967296)) + un1)) - (IntKind.u64.wrap (q1 * y))))
  let x5 := (IntKind.u64.wrap (x4.tdiv yn1))
  let x6 := (L_div64_25 k ((y, s, yn1, yn0, un0, q1, (IntKind.u64.wrap (x4 - (IntKind.u64.wrap (x5 * yn1)))), x4, x5, ()), ()))
  (bif (bif decide (q1 ≥ 4294967296) then true else decide ((IntKind.u64.wrap (q1 * yn0)) > (IntKind.u64.wrap ((IntKind.u64.wrap (4294967296 * rhat)) + un1)))) then (bif decide ((IntKind.u64.wrap (rhat + yn1)) ≥ 4294967296) then ⟨(((bif decide (q1 ≥ 4294967296) then true else true) && (yn1 != 0)) && x2.ok), x2.pan, x2.ret, x2.out, x2.pv⟩ else ⟨((bif decide (q1 ≥ 4294967296) then true else true) && x3.ok), x3.pan, x3.ret, x3.out, x3.pv⟩) else ⟨(((bif decide (q1 ≥ 4294967296) then true else true) && (yn1 != 0)) && x6.ok), x6.pan, x6.ret, x6.out, x6.pv⟩) := by kernel_rfl
theorem L_div64_25_eq (k : Nat) (y : Int) (s : Int) (yn1 : Int) (yn0 : Int) (un0 : Int) (q1 : Int) (rhat : Int) (un21 : Int) (q0 : Int) : L_div64_25 (k + 1) ((y, s, yn1, yn0, un0, q1, rhat, un21, q0, ()), ()) =
  let x0 := ((bif decide (q0 ≥ 4294967296) then true else true) && decide (0 ≤ s))
  let x1 := (L_div64_25 k ((y, s, yn1, yn0, un0, q1, (IntKind.u64.wrap (rhat + yn1)), un21, (IntKind.u64.wrap (q0 - 1)), ()), ()))
  (bif (bif decide (q0 ≥ 4294967296) then true else decide ((IntKind.u64.wrap (q0 * yn0)) > (IntKind.u64.wrap ((IntKind.u64.wrap (4294967296 * rhat)) + un0)))) then (bif decide ((IntKind.u64.wrap (rhat + yn1)) ≥ 4294967296) then ⟨x0, false, ((IntKind.u64.wrap ((IntKind.u64.wrap (q1 * 4294967296)) + (IntKind.u64.wrap (q0 - 1)))), ((IntKind.u64.wrap ((IntKind.u64.wrap ((IntKind.u64.wrap (un21 * 4294967296)) + un0)) - (IntKind.u64.wrap ((IntKind.u64.wrap (q0 - 1)) * y)))).fdiv (2 ^ (min s.toNat 64))), ()), (), ()⟩ else ⟨((bif decide (q0 ≥ 4294967296) then true else true) && x1.ok), x1.pan, x1.ret, x1.out, x1.pv⟩) else ⟨x0, false, ((IntKind.u64.wrap ((IntKind.u64.wrap (q1 * 4294967296)) + q0)), ((IntKind.u64.wrap ((IntKind.u64.wrap ((IntKind.u64.wrap (un21 * 4294967296)) + un0)) - (IntKind.u64.wrap (q0 * y)))).fdiv (2 ^ (min s.toNat 64))), ()), (), ()⟩) := by kernel_rfl
noncomputable def tbl17 : List (Ent TT) := ⟨97, g_div64, F_div64⟩ :: tbl16
theorem tbl17_ok : TblOK prog globs tbl17 := tbl_cons (by kernel_rfl) F_div64_ok tbl16_ok
noncomputable def C_withSign : Cx TT := cxB tbl17 Go.Proofs.Tryz.f98.ntmps [] [] [] [] []
noncomputable def k_withSign (a : g_withSign.args.ty) (h : tysO TT g_withSign.hp) : Nat := 0
noncomputable def F_withSign : g_withSign.args.ty → tysO TT g_withSign.hp → Res TT g_withSign := fun a h => bodyG C_withSign g_withSign Go.Proofs.Tryz.f98 [] (k_withSign a h) a h
theorem F_withSign_ok : FOK prog globs 98 g_withSign F_withSign :=
  bodyG_sound (cx := C_withSign) mix (cxB_ok tbl17_ok _ _ _ _ _ _) (f := 98) (fn := Go.Proofs.Tryz.f98) (by kernel_rfl) (by kernel_rfl) (by kernel_rfl) (by kernel_rfl) _
theorem F_withSign_eq (neg : Bool) (m : Int) : F_withSign (neg, m, ()) () =
  (bif neg then (bif decide (m > 9223372036854775808) then ⟨true, false, ((0 : Int), false, ()), (), ()⟩ else ⟨true, false, ((IntKind.i64.wrap (IntKind.u64.wrap (0 - m))), true, ()), (), ()⟩) else (bif decide (m > 9223372036854775807) then ⟨true, false, ((0 : Int), false, ()), (), ()⟩ else ⟨true, false, ((IntKind.i64.wrap m), true, ()), (), ()⟩)) := by kernel_rfl
noncomputable def tbl18 : List (Ent TT) := ⟨98, g_withSign, F_withSign⟩ :: tbl17
theorem tbl18_ok : TblOK prog globs tbl18 := tbl_cons (by kernel_rfl) F_withSign_ok tbl17_ok
noncomputable def C_mulDiv : Cx TT := cxB tbl18 Go.Proofs.Tryz.f175.ntmps [] [] [] [] []
noncomputable def k_mulDiv (a : g_mulDiv.args.ty) (h : tysO TT g_mulDiv.hp) : Nat := 0
noncomputable def F_mulDiv : g_mulDiv.args.ty → tysO TT g_mulDiv.hp → Res TT g_mulDiv := fun a h => bodyG C_mulDiv g_mulDiv Go.Proofs.Tryz.f175 [] (k_mulDiv a h) a h
theorem F_mulDiv_ok : FOK prog globs 175 g_mulDiv F_mulDiv :=
  bodyG_sound (cx := C_mulDiv) mix (cxB_ok tbl18_ok _ _ _ _ _ _) (f := 175) (fn := Go.Proofs.Tryz.f175) (by kernel_rfl) (by kernel_rfl) (by kernel_rfl) (by kernel_rfl) _
theorem F_mulDiv_eq (a_ : Int) (b : Int) (c : Int) : F_mulDiv (a_, b, c, ()) () =
  let x0 := (bif decide (c < 0) then (IntKind.u64.wrap (0 - (IntKind.u64.wrap c))) else (IntKind.u64.wrap c))
  let x1 := (x0 == 0)
  let x2 := (F_mul64 ((IntKind.u64.wrap (0 - (IntKind.u64.wrap a_))), (IntKind.u64.wrap (0 - (IntKind.u64.wrap b))), ()) ())
  let x3 := (x2.ret : Int × Int × Unit)
  let x4 := (F_mul64 ((IntKind.u64.wrap (0 - (IntKind.u64.wrap a_))), (IntKind.u64.wrap b), ()) ())
  let x5 := (x4.ret : Int × Int × Unit)
  let x6 := (F_mul64 ((IntKind.u64.wrap a_), (IntKind.u64.wrap (0 - (IntKind.u64.wrap b))), ()) ())
  let x7 := (x6.ret : Int × Int × Unit)
  let x8 := ((F_mul64 ((IntKind.u64.wrap a_), (IntKind.u64.wrap b), ()) ()).ret : Int × Int × Unit)
  let x9 := (bif decide (a_ < 0) then (bif decide (b < 0) then x3.1 else x5.1) else (bif decide (b < 0) then x7.1 else x8.1))
  let x10 := (bif decide (a_ < 0) then (bif decide (b < 0) then ((((bif decide (c < 0) then true else true) && true) && true) && x2.ok) else ((((bif decide (c < 0) then true else true) && true) && true) && x4.ok)) else (bif decide (b < 0) then ((((bif decide (c < 0) then true else true) && true) && true) && x6.ok) else ((((bif decide (c < 0) then true else true) && true) && true) && (F_mul64 ((IntKind.u64.wrap a_), (IntKind.u64.wrap b), ()) ()).ok)))
  let x11 := (bif x1 then x10 else x10)
  let x12 := (F_div64 (x9, (bif decide (a_ < 0) then (bif decide (b < 0) then x3.2.1 else x5.2.1) else (bif decide (b < 0) then x7.2.1 else x8.2.1)), x0, ()) ())
  let x13 := (x12.ret : Int × Int × Unit)
  let x14 := x13.2.1
  let x15 := (IntKind.u64.wrap (x0 - x14))
  let x16 := decide (x14 > x15)
  let x17 := (x14 == x15)
  let x18 := x13.1
  let x19 := (IntKind.u64.wrap (x18 + 1))
  let x20 := (x11 && x12.ok)
  let x21 := (bif x16 then x20 else (bif x17 then x20 else x20))
  let x22 := (!((!(decide (a_ < 0) == decide (b < 0))) == decide (c < 0)))
  let x23 := (F_withSign (x22, x19, ()) ())
  let x24 := (F_withSign (x22, x18, ()) ())
  (bif (bif x1 then true else decide (x9 ≥ x0)) then ⟨x11, false, ((0 : Int), false, ()), (), ()⟩ else (bif (bif x16 then true else (bif x17 then ((IntKind.u64.wrap ((((x18 % (((2 ^ 64) : Nat) : Int)).toNat &&& (1 % (((2 ^ 64) : Nat) : Int)).toNat) : Nat) : Int)) == 1) else false)) then (bif (x19 == 0) then ⟨x21, false, ((0 : Int), false, ()), (), ()⟩ else ⟨(x21 && x23.ok), false, x23.ret, (), ()⟩) else ⟨(x21 && x24.ok), false, x24.ret, (), ()⟩)) := by kernel_rfl
noncomputable def tbl19 : List (Ent TT) := ⟨175, g_mulDiv, F_mulDiv⟩ :: tbl18
theorem tbl19_ok : TblOK prog globs tbl19 := tbl_cons (by kernel_rfl) F_mulDiv_ok tbl18_ok
noncomputable def C_month : Cx TT := cxB tbl19 Go.Proofs.Tryz.f150.ntmps [] [] [] [] []
noncomputable def k_month (a : g_month.args.ty) (h : tysO TT g_month.hp) : Nat := 0
noncomputable def F_month : g_month.args.ty → tysO TT g_month.hp → Res TT g_month := fun a h => bodyG C_month g_month Go.Proofs.Tryz.f150 [] (k_month a h) a h
theorem F_month_ok : FOK prog globs 150 g_month F_month :=
  bodyG_sound (cx := C_month) mix (cxB_ok tbl19_ok _ _ _ _ _ _) (f := 150) (fn := Go.Proofs.Tryz.f150) (by kernel_rfl) (by kernel_rfl) (by kernel_rfl) (by kernel_rfl) _
theorem F_month_eq (balance : Int) (rate : Int) : F_month (balance, rate, ()) () =
  let x0 := (bif decide (balance < 0) then true else (bif decide (rate ≥ 0) then true else true))
  (bif (bif decide (balance < 0) then true else (!(bif decide (rate ≥ 0) then decide (rate ≤ 100000) else false))) then ⟨x0, false, ((0 : Int), false, ()), (), ()⟩ else ⟨(x0 && (F_mulDiv (balance, rate, (120000 : Int), ()) ()).ok), false, ((F_mulDiv (balance, rate, (120000 : Int), ()) ()).ret : Int × Bool × Unit), (), ()⟩) := by kernel_rfl
noncomputable def tbl20 : List (Ent TT) := ⟨150, g_month, F_month⟩ :: tbl19
theorem tbl20_ok : TblOK prog globs tbl20 := tbl_cons (by kernel_rfl) F_month_ok tbl19_ok
end Go.Proofs.YtlflclfhldghbaaGreatDoor.Fs
end
