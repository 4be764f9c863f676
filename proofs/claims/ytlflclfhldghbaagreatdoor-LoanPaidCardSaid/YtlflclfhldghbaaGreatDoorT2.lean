-- Texts of this claim, joined and cut down to what it uses (a program of this session).
import Derived.Test.YtlflclfhldghbaaGreatDoorT1
set_option linter.unusedVariables false
set_option linter.unusedSimpArgs false
set_option linter.unnecessarySimpa false
section
namespace Go.Proofs.YtlflclfhldghbaaGreatDoor.Ls
open Go
section
variable {T : TypeId → VS} {cx : Cx T} {E : Emb} {st : St T} {a : Act} {w : World} {o : Oper}
theorem wsl_inv {N id : Nat} {v' : Value} (h : VR E N (.slice (some ⟨id, 0, none⟩) 0 0) v') : okId N id ∧
    ((∃ c, (E id).n ≤ c ∧ c ≤ (E id).lim ∧ v' = .slice (some ⟨(E id).blk, (E id).base, none⟩) (E id).n c) ∨ ((E id).n = 0 ∧ ∃ x, v' = .slice x 0 0)) := by
  cases h with
  | scal _ hs => simp [scalar] at hs
  | wsl _ c h hc hl => exact ⟨h, .inl ⟨c, hc, hl, rfl⟩⟩
  | wsl0 _ x h hn => exact ⟨h, .inr ⟨hn, x, rfl⟩⟩
  | fsl _ _ _ c h hn hc => exact absurd rfl hn
theorem gsl_inv {N id o n c : Nat} {v' : Value} (h : VR E N (.slice (some ⟨id, o, some 0⟩) n c) v') : okId N id ∧ o + n ≤ (E id).n ∧ n ≤ c ∧ o + c ≤ (E id).n ∧
    ((∃ c', c ≤ c' ∧ o + c' ≤ (E id).lim ∧ v' = .slice (some (locA E ⟨id, o, some 0⟩)) n c') ∨ (n = 0 ∧ c = 0 ∧ ∃ x, v' = .slice x 0 0)) := by
  cases h with
  | scal _ hs => simp [scalar] at hs
  | gsl _ _ _ _ c' h hn hc hN hl => exact ⟨h, by omega, hn, hN, .inl ⟨c', hc, hl, rfl⟩⟩
  | gsl0 _ _ x h hN => exact ⟨h, by simpa using hN, Nat.le_refl _, by simpa using hN, .inr ⟨rfl, rfl, x, rfl⟩⟩
theorem fsl_inv {N id o n c : Nat} {v' : Value} (h : VR E N (.slice (some ⟨id, o, none⟩) n c) v') (hn : n ≠ 0) : okId N id ∧ ∃ c', v' = .slice (some (locA E ⟨id, o, none⟩)) n c' := by
  cases h with
  | scal _ hs => simp [scalar] at hs
  | wsl _ c h hc hl => exact absurd rfl hn
  | wsl0 _ x h hn' => exact absurd rfl hn
  | fsl _ _ _ c' h _ hc => exact ⟨h, c', rfl⟩
theorem row_shape (hS : Sim cx.glob E st.heap w) {id : Nat} {wr : Bool} {e : TypeId} {xs : List (T e).ty} (h : lookO cx.glob st.heap id = some (.row wr e xs)) : (T e).plain = true ∧ (E id).es = (T e).size ∧ (E id).n = xs.length := by
  obtain ⟨h1, h2, h3, _, _⟩ := hS.ob id _ h
  exact ⟨h1, h2, h3⟩
theorem eptr_at {N id i s : Nat} (hid : okId N id) (o : Nat) (hs : (E id).es = s) : VR E N (.pointer (some ⟨id, o + i, some 0⟩)) (.pointer (some (Addr.add ⟨(E id).blk, (E id).base + o * s, none⟩ (i * s)))) := by
  have := VR.ptr (E := E) (N := N) ⟨id, o + i, some 0⟩ hid
  rw [Addr.add_lit]
  simp only [locA, hs, Nat.add_mul, Nat.add_zero, Nat.add_assoc] at this ⊢
  exact this
theorem and_dec {p q : Prop} [Decidable p] [Decidable q] (h : (some (decide p && decide q) : Option Bool) ≠ some false) : p ∧ q := by
  simp at h; exact h
theorem and_dec' {p q : Prop} [Decidable p] [Decidable q] (h : (decide p && decide q) = true) : p ∧ q := by
  simpa using h
theorem indexL_sound (hS : Sim cx.glob E st.heap w) {t : TypeId} {x i x' i' v : Value} {g : Option Bool} (h : indexL cx st.heap t x i = some (v, g)) (hg : g ≠ some false) (hx : VR E st.heap.length x x') (hi : VR E st.heap.length i i') :
    ∃ v', (Instr.indexAt t x' i').run cx.P w = .ok v' w ∧ VR E st.heap.length v v' := by
  unfold indexL at h
  split at h
  · rename_i k i0
    have ei := hi.scalar_eq rfl
    subst ei
    split at h
    · rename_i e hu
      have hel : cx.P.elem t = e := by simp [Program.elem, hu]
      split at h
      · cases h
      · rename_i s hs
        have run : ∀ (ad : Addr) (n c : Nat), 0 ≤ i0 → i0 < n → (Instr.indexAt t (.slice (some ad) n c) (.int k i0)).run cx.P w = .ok (.pointer (some (ad.add (i0.toNat * s)))) w := by
          intro ad n c h0 h1
          rw [run_indexAt_slice w t ad n c k i0 (by rw [hel]; exact hu), if_pos ⟨h0, h1⟩, hel, run_sizeOf hs]
          rfl
        split at h
        · rename_i id o sp n c
          split at h
          · rename_i wr e' xs hlo
            obtain ⟨hpl, hes, hn⟩ := row_shape hS hlo
            split at h
            · cases h
            · rename_i hse
              have hse := Nat.eq_of_beq_eq_true hse
              split at h
              · split at h
                · rename_i h1 h2
                  have h1 := Nat.eq_of_beq_eq_true h1
                  have h2 := Nat.eq_of_beq_eq_true h2
                  subst h1; subst h2
                  simp at h; obtain ⟨rfl, rfl⟩ := h
                  obtain ⟨h0, hlt⟩ := and_dec hg
                  have hc0 : c = 0 := by cases hx <;> first | rfl | (rename_i h; simp [scalar] at h)
                  subst hc0
                  obtain ⟨hid, hh⟩ := wsl_inv hx
                  rcases hh with ⟨c', _, _, rfl⟩ | ⟨hz, _⟩
                  · refine ⟨_, run _ _ _ h0 (by rw [hn]; exact hlt), ?_⟩
                    have := eptr_at (i := i0.toNat) hid 0 (hes.trans hse.symm)
                    simpa using this
                  · omega
                · cases h
              · simp at h; obtain ⟨rfl, rfl⟩ := h
                obtain ⟨h0, hlt⟩ := and_dec hg
                obtain ⟨hid, _, _, _, hh⟩ := gsl_inv hx
                rcases hh with ⟨c', _, _, rfl⟩ | ⟨hz, _, _⟩
                · refine ⟨_, run _ _ _ h0 hlt, ?_⟩
                  have := eptr_at (i := i0.toNat) hid o (hes.trans hse.symm)
                  simpa [locA, hes.trans hse.symm] using this
                · omega
              · cases h
          · split at h
            · rename_i hd
              simp at h; obtain ⟨rfl, rfl⟩ := h
              obtain ⟨h0, hlt⟩ := and_dec' hd
              obtain ⟨hid, c', rfl⟩ := fsl_inv hx (by omega)
              refine ⟨_, run _ _ _ h0 hlt, ?_⟩
              have := VR.ptr (E := E) (N := st.heap.length) ⟨id, o + i0.toNat * s, none⟩ hid
              simpa [locA, Addr.add_lit, Nat.add_assoc] using this
            · cases h
          · cases h
        · cases h
    · rename_i n e hu
      have hel : cx.P.elem t = e := by simp [Program.elem, hu]
      have hal : cx.P.arrayLen t = n := by simp [Program.arrayLen, hu]
      split at h
      · cases h
      · rename_i s hs
        have run : ∀ (ad : Addr), 0 ≤ i0 → i0 < n → (Instr.indexAt t (.pointer (some ad)) (.int k i0)).run cx.P w = .ok (.pointer (some (ad.add (i0.toNat * s)))) w := by
          intro ad h0 h1
          rw [run_indexAt_array w t ad k i0 (by rw [hel, hal]; exact hu), hal, if_pos ⟨h0, h1⟩, hel, run_sizeOf hs]
          rfl
        split at h
        · rename_i id o sp
          have hxe := ptr_inv hx
          have hid : okId st.heap.length id := ptr_ok hx
          subst hxe
          split at h
          · rename_i wr e' xs hlo
            obtain ⟨hpl, hes, hn⟩ := row_shape hS hlo
            split at h
            · cases h
            · rename_i hse
              have hse := Nat.eq_of_beq_eq_true hse
              split at h
              · rename_i h1
                have h1 := Nat.eq_of_beq_eq_true h1
                subst h1
                simp at h; obtain ⟨rfl, rfl⟩ := h
                obtain ⟨h0, hlt⟩ := and_dec hg
                refine ⟨_, run _ h0 hlt, ?_⟩
                have := eptr_at (i := i0.toNat) hid 0 (hes.trans hse.symm)
                simpa [locA] using this
              · cases h
          · split at h
            · rename_i hd
              simp at h; obtain ⟨rfl, rfl⟩ := h
              obtain ⟨h0, hlt⟩ := and_dec' hd
              refine ⟨_, run _ h0 hlt, ?_⟩
              have := VR.ptr (E := E) (N := st.heap.length) ⟨id, o + i0.toNat * s, none⟩ hid
              simpa [locA, Addr.add_lit, Nat.add_assoc] using this
            · cases h
          · cases h
        · cases h
    · cases h
  · cases h
theorem op_indexAddr (hS : Sim cx.glob E st.heap w) (hV : EnvR E st.heap.length st.env a) {t : TypeId} {x i : Operand} {v : Value} {g : Option Bool} (h : indexL cx st.heap t (st.ev x) (st.ev i) = some (v, g)) (hg : g ≠ some false) (ho : o.op = .indexAddr t x i) :
    OpOK cx E st a w o (.val v (st.need g)) := by
  obtain ⟨v', h1, h2⟩ := indexL_sound hS h hg (ev_rel hS hV x) (ev_rel hS hV i)
  exact ok_value (s := Instr.indexAt t (a.eval x) (a.eval i)) (by simp [execOp, ho]) h1 (by rw [need_heap]; exact h2) (stp_need hS g)
theorem nilsl_inv {N n c : Nat} {v' : Value} (h : VR E N (.slice none n c) v') : n = 0 ∧ c = 0 ∧ v' = .slice none 0 0 := by
  cases h with
  | scal _ hs => simp [scalar] at hs; exact ⟨hs.1, hs.2, by rw [hs.1, hs.2]⟩
theorem lenL_sound (hS : Sim cx.glob E st.heap w) {t ty : TypeId} {x x' : Value} {n : Int} (h : lenL cx st.heap t x = some n) (hx : VR E st.heap.length x x') :
    (Builtin.len_ #[t] ty #[x']).run cx.P w = .ok (.int .i64 n) w := by
  unfold lenL at h
  cases hu : cx.P.underlying t with
  | none => simp [hu] at h
  | some d =>
    cases d <;> simp only [hu] at h <;> try (cases h; done)
    case string =>
      split at h
      · simp at h; subst h
        have := hx.scalar_eq rfl
        subst this
        simp [Builtin.len_, run_underlying hu, goInt]
      · cases h
    case array m e =>
      simp at h; subst h
      cases x' <;> simp [Builtin.len_, run_underlying hu, goInt]
    case slice e =>
      have run : ∀ (b : Option Addr) (n c : Nat), (Builtin.len_ #[t] ty #[.slice b n c]).run cx.P w = .ok (.int .i64 (n : Int)) w := by
        intro b n c; simp [Builtin.len_, run_underlying hu, goInt]
      split at h
      · obtain ⟨rfl, rfl, rfl⟩ := nilsl_inv hx
        simp at h; subst h
        exact run _ _ _
      · rename_i id o sp m c
        split at h
        · simp at h; subst h
          rename_i j
          cases hx with
          | scal _ hs => simp [scalar] at hs
          | gsl => exact run _ _ _
          | gsl0 => exact run _ _ _
        · split at h
          · rename_i wr e' xs hlo
            obtain ⟨hpl, hes, hn⟩ := row_shape hS hlo
            split at h
            · rename_i hm
              have hm := Nat.eq_of_beq_eq_true hm
              subst hm
              simp at h; subst h
              cases hx with
              | scal _ hs => simp [scalar] at hs
              | wsl _ c h hc hl => rw [run, hn]
              | wsl0 _ x h hz => rw [run, ← hn, hz]
              | fsl _ _ _ c h hn0 hc => exact absurd rfl hn0
            · cases h
          · split at h
            · cases h
            · rename_i hm
              have hm := Nat.ne_of_beq_eq_false hm
              simp at h; subst h
              obtain ⟨_, c', rfl⟩ := fsl_inv hx hm
              exact run _ _ _
          · cases h
      · cases h
theorem op_len (hS : Sim cx.glob E st.heap w) (hV : EnvR E st.heap.length st.env a) {c : Call} {t : TypeId} {x : Operand} {n : Int} (hc : c.callee = .builtin .len) (ht : c.argTypes = #[t]) (hx : c.args = #[x]) (h : lenL cx st.heap t (st.ev x) = some n) (ho : o.op = .call c) :
    OpOK cx E st a w o (.val (.int .i64 n) st) := by
  have r := lenL_sound (ty := o.type) hS h (ev_rel hS hV x)
  refine ok_value (s := Builtin.len_ #[t] o.type #[a.eval x]) ?_ r (.scal _ rfl) (Stp.refl hS)
  simp [execOp, ho, resolve, hc, ht, hx, invoke, builtin]
end
end Go.Proofs.YtlflclfhldghbaaGreatDoor.Ls
end
section
namespace Go.Proofs.YtlflclfhldghbaaGreatDoor.Ls
open Go
section
variable {T : TypeId → VS} {cx : Cx T} {E : Emb} {st : St T} {a : Act} {w : World} {o : Oper}
theorem new_none (hS : Sim cx.glob E st.heap w) (hlt : st.heap.length < GB) (e : TypeId) (hp : (T e).plain = true) :
    Stp cx.glob E st w (updE E st.heap.length ⟨w.heap.size, 0, 0, (T e).size, 0, true⟩) { st with heap := st.heap ++ [.row true e []] } w :=
  stp_new hS hlt _ _ (Nat.le_refl _) (Nat.le_refl _) (fun _ _ => rfl) rfl rfl rfl ⟨hp, by rw [updE_self], by rw [updE_self]; rfl, by rw [updE_self]; exact Nat.le_refl _, .inl (by rw [updE_self])⟩
theorem new_whole {L : Loc} {N : Nat} {v' : Value} (h : (∃ c, L.n ≤ c ∧ c ≤ L.lim ∧ v' = .slice (some ⟨L.blk, L.base, none⟩) L.n c) ∨ (L.n = 0 ∧ ∃ x, v' = .slice x 0 0)) :
    VR (updE E N L) (N + 1) (.slice (some ⟨N, 0, none⟩) 0 0) v' := by
  have hid : okId (N + 1) N := .inl (by omega)
  rcases h with ⟨c, h1, h2, rfl⟩ | ⟨h1, x, rfl⟩
  · have := VR.wsl (E := updE E N L) (N := N + 1) N c hid (by rw [updE_self]; exact h1) (by rw [updE_self]; exact h2)
    rwa [updE_self] at this
  · exact .wsl0 N x hid (by rw [updE_self]; exact h1)
theorem boundL_rel {N d : Nat} {lo lo' : Option Value} {l : Int} (h : boundL d lo = some l) (hr : ∀ v, lo = some v → ∃ v', lo' = some v' ∧ VR E N v v') (hn : lo = none → lo' = none) :
    (lo = none ∧ lo' = none ∧ l = d) ∨ ∃ k, lo' = some (.int k l) := by
  cases lo with
  | none => simp [boundL] at h; exact .inl ⟨rfl, hn rfl, h.symm⟩
  | some v =>
    cases v <;> simp [boundL] at h
    rename_i k n
    subst h
    obtain ⟨v', h1, h2⟩ := hr _ rfl
    have := h2.scalar_eq rfl
    subst this
    exact .inr ⟨k, h1⟩
theorem run_sliceBounds (isSl : Bool) (len cap : Nat) (lo hi : Option Value) (l h : Int) (hlo : (lo = none ∧ l = 0) ∨ ∃ k, lo = some (.int k l)) (hhi : (hi = none ∧ h = len) ∨ ∃ k, hi = some (.int k h))
    (h0 : 0 ≤ l) (h1 : l ≤ h) (h2 : h ≤ cap) : (Instr.sliceBounds isSl len cap lo hi none).run cx.P w = .ok (l.toNat, h.toNat, cap) w := by
  have e : ((h.toNat : Nat) : Int) = h := by omega
  rcases hhi with ⟨rfl, rfl⟩ | ⟨kh, rfl⟩ <;> rcases hlo with ⟨rfl, rfl⟩ | ⟨kl, rfl⟩
  · simp [Instr.sliceBounds]
  · simp [Instr.sliceBounds, Instr.sliceBound, asIntOf, h0, h1]
  · simp [Instr.sliceBounds, Instr.sliceBound, asIntOf, h1, h2]
  · simp [Instr.sliceBounds, Instr.sliceBound, asIntOf, h0, h1, h2, show 0 ≤ h by omega, e]
theorem evo_rel (hS : Sim cx.glob E st.heap w) (hV : EnvR E st.heap.length st.env a) (x : Option Operand) : (∀ v, evo st x = some v → ∃ v', x.map a.eval = some v' ∧ VR E st.heap.length v v') ∧ (evo st x = none → x.map a.eval = none) := by
  cases x with
  | none => exact ⟨fun v h => by simp [evo] at h, fun _ => rfl⟩
  | some x => exact ⟨fun v h => by simp [evo] at h; subst h; exact ⟨_, rfl, ev_rel hS hV x⟩, fun h => by simp [evo] at h⟩
theorem isZero_rel {N : Nat} {v v' : Value} (h : isZero v = true) (hv : VR E N v v') : ∃ k, v' = .int k 0 := by
  cases v <;> simp [isZero] at h
  subst h
  have := hv.scalar_eq rfl
  exact ⟨_, this⟩
theorem op_slice (hS : Sim cx.glob E st.heap w) (hV : EnvR E st.heap.length st.env a) {t : TypeId} {x : Operand} {lo hi mx : Option Operand} {v : Value} {st' : St T} (h : sliceL cx st t (st.ev x) (evo st lo) (evo st hi) (evo st mx) = some (v, st')) (hok : st'.ok = true)
    (hle : st'.heap.length ≤ GB) (ho : o.op = .slice t x lo hi mx) : st.ok = true ∧ OpOK cx E st a w o (.val v st') := by
  have hx := ev_rel hS hV x
  obtain ⟨hlo, hlo'⟩ := evo_rel hS hV lo
  obtain ⟨hhi, hhi'⟩ := evo_rel hS hV hi
  obtain ⟨hmx, hmx'⟩ := evo_rel hS hV mx
  have he : execOp a.eval o = (do pure (.value (← Instr.sliceAt t (a.eval x) (lo.map a.eval) (hi.map a.eval) (mx.map a.eval)))) := by simp [execOp, ho]
  generalize evo st lo = Lo at *
  generalize evo st hi = Hi at *
  generalize evo st mx = Mx at *
  generalize lo.map a.eval = Lo' at *
  generalize hi.map a.eval = Hi' at *
  generalize mx.map a.eval = Mx' at *
  generalize st.ev x = X at *
  generalize a.eval x = X' at *
  unfold sliceL at h
  cases hu : cx.P.underlying t with
  | none => simp [hu] at h
  | some d =>
    cases d <;> simp only [hu] at h <;> try (cases h; done)
    case string =>
      split at h
      · rename_i s
        split at h
        · rename_i l hh h1 h2
          simp at h; obtain ⟨rfl, rfl⟩ := h
          obtain ⟨hok1, hg⟩ := need_okb hok
          simp at hg
          have := hx.scalar_eq rfl
          subst this
          have e3 := hmx' rfl
          subst e3
          have r := run_sliceBounds (cx := cx) (w := w) false s.size s.size Lo' Hi' l hh (by rcases boundL_rel h1 hlo hlo' with ⟨_, h, h'⟩ | h; exact .inl ⟨h, by simpa using h'⟩; exact .inr h)
            (by rcases boundL_rel h2 hhi hhi' with ⟨_, h, h'⟩ | h; exact .inl ⟨h, by simpa using h'⟩; exact .inr h) hg.1 hg.2.1 hg.2.2
          refine ⟨hok1, ok_value he ?_ (.scal _ rfl) (stp_need hS _)⟩
          simp [Instr.sliceAt, Instr.slice, run_underlying hu, r]
        · cases h
      · cases h
    case slice e =>
      split at h
      · cases h
      · rename_i s hs
        have run : ∀ (b : Option Addr) (n c l hh : Nat) (m : Nat), (Instr.sliceBounds true n c Lo' Hi' Mx').run cx.P w = .ok (l, hh, m) w →
            (Instr.sliceAt t (.slice b n c) Lo' Hi' Mx').run cx.P w = .ok (.slice (if m = l then b else b.map (·.add (l * s))) (hh - l) (m - l)) w := by
          intro b n c l hh m hr
          simp [Instr.sliceAt, Instr.slice, run_underlying hu, hr, run_sizeOf hs]
        split at h
        ·
          rename_i n c
          obtain ⟨rfl, rfl, rfl⟩ := nilsl_inv hx
          have hz : ∀ {Y : Option Value} {Y' : Option Value}, isZeroO Y = true → (∀ v, Y = some v → ∃ v', Y' = some v' ∧ VR E st.heap.length v v') → (Y = none → Y' = none) → Y' = none ∨ ∃ k, Y' = some (.int k 0) := by
            intro Y Y' h1 h2 h3
            cases Y with
            | none => exact .inl (h3 rfl)
            | some v =>
              obtain ⟨v', h4, h5⟩ := h2 v rfl
              obtain ⟨k, h6⟩ := isZero_rel (by simpa [isZeroO] using h1) h5
              exact .inr ⟨k, by rw [h4, h6]⟩
          split at h
          · rename_i hzz hmk
            simp at hzz
            simp at h; obtain ⟨rfl, rfl⟩ := h
            refine ⟨hok, ok_value he (v' := .slice none 0 0) ?_ (.scal _ rfl) (Stp.refl hS)⟩
            have no : ∀ k, Mx' = some (.int k 0) → Hi' = none → False := by
              intro k h5 h6
              cases Mx with
              | none => rw [hmx' rfl] at h5; cases h5
              | some m => cases Hi with
                | none => simp [mxOk] at hmk
                | some u => obtain ⟨u', h7, _⟩ := hhi u rfl; rw [h6] at h7; cases h7
            have hb : (Instr.sliceBounds true 0 0 Lo' Hi' Mx').run cx.P w = .ok (0, 0, 0) w := by
              rcases hz hzz.1 hlo hlo' with rfl | ⟨k1, rfl⟩ <;> rcases hz hzz.2.2 hmx hmx' with rfl | ⟨k3, rfl⟩ <;> rcases hz hzz.2.1 hhi hhi' with rfl | ⟨k2, rfl⟩
              all_goals first
                | (exact absurd rfl (fun h => no _ rfl h))
                | (simp [Instr.sliceBounds, Instr.sliceBound, asIntOf])
            rw [run _ _ _ _ _ _ hb]; simp
          · cases h
        · rename_i id off sp n c
          split at h
          · rename_i wr e' xs hlk
            obtain ⟨hpl, hes, hn⟩ := row_shape hS hlk
            split at h
            · cases h
            · rename_i hse
              have hse := Nat.eq_of_beq_eq_true hse
              split at h
              ·
                have e3 := hmx' rfl
                subst e3
                split at h
                · split at h
                  · rename_i l hh h1 h2 h3 h4
                    have h1 := Nat.eq_of_beq_eq_true h1
                    have h2 := Nat.eq_of_beq_eq_true h2
                    subst h1; subst h2
                    simp at h; obtain ⟨rfl, rfl⟩ := h
                    obtain ⟨hok1, hg⟩ := need_okb hok
                    simp at hg
                    have hc0 : c = 0 := by cases hx <;> first | rfl | (rename_i h; simp [scalar] at h)
                    subst hc0
                    obtain ⟨hid, hh'⟩ := wsl_inv hx
                    have b1 : (Lo' = none ∧ l = 0) ∨ ∃ k, Lo' = some (.int k l) := by rcases boundL_rel h3 hlo hlo' with ⟨_, h, h'⟩ | h; exact .inl ⟨h, by simpa using h'⟩; exact .inr h
                    have b2 : (Hi' = none ∧ hh = (E id).n) ∨ ∃ k, Hi' = some (.int k hh) := by rcases boundL_rel h4 hhi hhi' with ⟨_, h, h'⟩ | h; exact .inl ⟨h, by rw [hn]; simpa using h'⟩; exact .inr h
                    refine ⟨hok1, ?_⟩
                    rcases hh' with ⟨c', hc1, hc2, rfl⟩ | ⟨hz, x', rfl⟩
                    · have r := run_sliceBounds (cx := cx) (w := w) true (E id).n c' Lo' Hi' l hh b1 b2 hg.1 hg.2.1 (by omega)
                      refine ok_value he (run _ _ _ _ _ _ r) ?_ (stp_need hS _)
                      rw [need_heap]
                      by_cases hcl : c' = l.toNat
                      · rw [if_pos hcl]
                        rw [show hh.toNat - l.toNat = 0 by omega, show xs.length - l.toNat = 0 by omega, show c' - l.toNat = 0 by omega]
                        exact .gsl0 id l.toNat _ hid (by omega)
                      · rw [if_neg hcl]
                        have := VR.gsl (E := E) (N := st.heap.length) id l.toNat (hh.toNat - l.toNat) (xs.length - l.toNat) (c' - l.toNat) hid (by omega) (by omega) (by omega) (by omega)
                        simpa [locA, Addr.add_lit, hes, hse] using this
                    · have r := run_sliceBounds (cx := cx) (w := w) true 0 0 Lo' Hi' l hh b1 (by rw [hz] at b2; exact b2) hg.1 hg.2.1 (by omega)
                      refine ok_value he (run _ _ _ _ _ _ r) ?_ (stp_need hS _)
                      rw [need_heap]
                      rw [show hh.toNat - l.toNat = 0 by omega, show xs.length - l.toNat = 0 by omega, show 0 - l.toNat = 0 by omega]
                      exact .gsl0 id l.toNat _ hid (by omega)
                  · cases h
                · split at h
                  · rename_i l hh h3 h4
                    simp at h; obtain ⟨rfl, rfl⟩ := h
                    obtain ⟨hok1, hg⟩ := need_okb hok
                    simp at hg
                    obtain ⟨hid, hon, hnc, hoc, hh'⟩ := gsl_inv hx
                    have b1 : (Lo' = none ∧ l = 0) ∨ ∃ k, Lo' = some (.int k l) := by rcases boundL_rel h3 hlo hlo' with ⟨_, h, h'⟩ | h; exact .inl ⟨h, by simpa using h'⟩; exact .inr h
                    have b2 : (Hi' = none ∧ hh = n) ∨ ∃ k, Hi' = some (.int k hh) := by rcases boundL_rel h4 hhi hhi' with ⟨_, h, h'⟩ | h; exact .inl ⟨h, by simpa using h'⟩; exact .inr h
                    refine ⟨hok1, ?_⟩
                    rcases hh' with ⟨c', hc1, hc2, rfl⟩ | ⟨hz, hz', x', rfl⟩
                    · have r := run_sliceBounds (cx := cx) (w := w) true n c' Lo' Hi' l hh b1 b2 hg.1 hg.2.1 (by omega)
                      refine ok_value he (run _ _ _ _ _ _ r) ?_ (stp_need hS _)
                      rw [need_heap]
                      by_cases hcl : c' = l.toNat
                      · rw [if_pos hcl]
                        rw [show hh.toNat - l.toNat = 0 by omega, show c - l.toNat = 0 by omega, show c' - l.toNat = 0 by omega]
                        exact .gsl0 id _ _ hid (by omega)
                      · rw [if_neg hcl]
                        have := VR.gsl (E := E) (N := st.heap.length) id (off + l.toNat) (hh.toNat - l.toNat) (c - l.toNat) (c' - l.toNat) hid (by omega) (by omega) (by omega) (by omega)
                        simpa [locA, Addr.add_lit, hes, hse, Nat.add_mul, Nat.add_assoc] using this
                    · subst hz; subst hz'
                      have r := run_sliceBounds (cx := cx) (w := w) true 0 0 Lo' Hi' l hh b1 b2 hg.1 hg.2.1 (by omega)
                      refine ok_value he (run _ _ _ _ _ _ r) ?_ (stp_need hS _)
                      rw [need_heap]
                      rw [show hh.toNat - l.toNat = 0 by omega, show 0 - l.toNat = 0 by omega]
                      exact .gsl0 id _ _ hid (by omega)
                  · cases h
                · cases h
              · rename_i m
                split at h
                · cases h
                · rename_i hv
                  split at h
                  · rename_i hz hpl'
                    simp at hz
                    simp at h; obtain ⟨rfl, rfl⟩ := h
                    simp at hle
                    obtain ⟨m', hm1, hm2⟩ := hmx m rfl
                    obtain ⟨km, rfl⟩ := isZero_rel hz.1 hm2
                    subst hm1
                    obtain ⟨h', hh1, hh2⟩ := hhi hv rfl
                    obtain ⟨kh, rfl⟩ := isZero_rel hz.2.1 hh2
                    subst hh1
                    have hb : ∀ n c, (Instr.sliceBounds true n c Lo' (some (.int kh 0)) (some (.int km 0))).run cx.P w = .ok (0, 0, 0) w := by
                      intro n c
                      cases Lo with
                      | none => rw [hlo' rfl]; simp [Instr.sliceBounds, Instr.sliceBound, asIntOf]
                      | some u =>
                        obtain ⟨u', h6, h7⟩ := hlo u rfl
                        obtain ⟨k, rfl⟩ := isZero_rel (by simpa [isZeroO] using hz.2.2) h7
                        rw [h6]; simp [Instr.sliceBounds, Instr.sliceBound, asIntOf]
                    have hform : ∃ b n' c', X' = .slice b n' c' := by
                      cases hx <;> exact ⟨_, _, _, rfl⟩
                    obtain ⟨b, n', c', rfl⟩ := hform
                    refine ⟨hok, ok_value he (run _ _ _ _ _ _ (hb _ _)) ?_ (new_none hS (by omega) e' hpl')⟩
                    simp only [List.length_append, List.length_cons, List.length_nil]
                    exact new_whole (.inr ⟨rfl, b, by simp⟩)
                  · cases h
          · cases h
        · cases h
end
end Go.Proofs.YtlflclfhldghbaaGreatDoor.Ls
end
section
namespace Go.Proofs.YtlflclfhldghbaaGreatDoor.Ls
open Go
section
variable {T : TypeId → VS} {cx : Cx T} {E : Emb} {st : St T} {a : Act} {w : World} {o : Oper}
theorem stp_reuse {w' : World} (h : Sim cx.glob E st.heap w) (id : Nat) (hid : id < st.heap.length) (hlt : st.heap.length < GB) (ob ob' : Ob T) (hold : st.heap[id]? = some ob) (hsol : solid E id ob) (L : Loc) (hL : L.blk = (E id).blk)
    (hw : w'.heap.size = w.heap.size) (hh : ∀ b, b ≠ (E id).blk → w'.heap[b]? = w.heap[b]?) (hos : w'.os = w.os) (htape : w'.tape = w.tape) (hout : w'.output = w.output)
    (hob : ObR (updE E st.heap.length L) (st.heap.length + 1) st.heap.length w' ob') :
    Stp cx.glob E st w (updE E st.heap.length L) { touch st id .dead with heap := (touch st id .dead).heap ++ [ob'] } w' := by
  have hagr : ∀ j, okId st.heap.length j → updE E st.heap.length L j = E j := fun j hj => updE_ne E L (by rcases hj with hj | hj <;> omega)
  have hlen : (touch st id .dead).heap.length = st.heap.length := by simp [touch, setO]
  have hGB : id < GB := by omega
  have hold' : lookO cx.glob st.heap id = some ob := by rw [lookO_lt hGB]; exact hold
  have hlook : ∀ j, j ≠ st.heap.length → ∀ oj, lookO cx.glob ((touch st id .dead).heap ++ [ob']) j = some oj → (j = id ∧ oj = .dead) ∨ (j ≠ id ∧ lookO cx.glob st.heap j = some oj) := by
    intro j hne oj ho
    by_cases hg : GB ≤ j
    · rw [lookO_ge hg] at ho
      exact .inr ⟨by omega, by rw [lookO_ge hg]; exact ho⟩
    · rw [lookO_lt (by omega), List.getElem?_append, hlen] at ho
      split at ho
      · next hl =>
        simp only [touch, setO] at ho
        by_cases e : j = id
        · subst e; simp [hid] at ho; exact .inl ⟨rfl, ho.symm⟩
        · rw [List.getElem?_set_ne (Ne.symm e)] at ho
          exact .inr ⟨e, by rw [lookO_lt (by omega)]; exact ho⟩
      · next hl => rw [List.getElem?_eq_none] at ho; cases ho; simp; omega
  have hnew : ∀ oj, lookO cx.glob ((touch st id .dead).heap ++ [ob']) st.heap.length = some oj → oj = ob' := by
    intro oj ho
    rw [lookO_lt hlt, List.getElem?_append_right (by omega), hlen] at ho
    simp at ho; exact ho.symm
  have hapart : ∀ j oj, j ≠ st.heap.length → lookO cx.glob ((touch st id .dead).heap ++ [ob']) j = some oj → solid0 (updE E st.heap.length L) j oj → (updE E st.heap.length L j).blk ≠ (E id).blk := by
    intro j oj hne ho hs
    rcases hlook j hne oj ho with ⟨_, rfl⟩ | ⟨hji, hj⟩
    · exact hs.elim
    · have e := hagr j (lookO_ok hj)
      rw [e]
      exact h.sep j id oj ob hji hj hold' (solid0_eq e hs) hsol
  refine ⟨⟨by simp [hlen]; omega, ?_, ?_, ?_, h.gok⟩, by simp [hlen], hagr, hos, htape, hout, by omega, ?_, ?_, ?_, touch_mono st id .dead, rfl, ?_⟩
  · intro j oj ho
    simp only [List.length_append, List.length_cons, List.length_nil, hlen]
    by_cases hne : j = st.heap.length
    · subst hne; rw [hnew oj ho]; exact hob
    · rcases hlook j hne oj ho with ⟨_, rfl⟩ | ⟨hji, hj⟩
      · trivial
      · exact (h.ob j oj hj).step (hagr j (lookO_ok hj)) hagr (by omega) (fun hs => hh _ (h.sep j id oj ob hji hj hold' hs hsol))
  · intro i j oi oj hij hi hj hsi hsj
    by_cases ei : i = st.heap.length
    · have ej : j ≠ st.heap.length := fun e => hij (ei.trans e.symm)
      have := hapart j oj ej hj hsj.to0
      subst ei
      rw [updE_self, hL]; exact Ne.symm this
    · by_cases ej : j = st.heap.length
      · have := hapart i oi ei hi hsi
        subst ej
        rw [updE_self, hL]; exact this
      · rcases hlook i ei oi hi with ⟨_, rfl⟩ | ⟨hii, hi'⟩
        · exact hsi.elim
        · rcases hlook j ej oj hj with ⟨_, rfl⟩ | ⟨hji, hj'⟩
          · exact hsj.elim
          · have e1 := hagr i (lookO_ok hi')
            have e2 := hagr j (lookO_ok hj')
            rw [e1, e2]
            exact h.sep i j oi oj hij hi' hj' (solid0_eq e1 hsi) (solid_eq e2 hsj)
  · intro j hj; rw [hagr j (.inr hj)]; exact h.glo j hj
  · intro b hb hD
    exact hh b (fun e => hD id (touch_mem st id .dead) hid ⟨ob, hold, hsol⟩ e.symm)
  · intro j h1 h2 _
    simp [hlen] at h2
    have : j = st.heap.length := by omega
    subst this
    rw [updE_self]; exact .inr ⟨id, touch_mem st id .dead, hid, ⟨ob, hold, hsol⟩, hL⟩
  · intro j hj hD
    have : j ≠ id := fun e => hD (e ▸ touch_mem st id .dead)
    rw [List.getElem?_append_left (by rw [hlen]; exact hj)]
    simp only [touch, setO]; rw [List.getElem?_set_ne (Ne.symm this)]
  · have key : ∀ j, j < st.heap.length → ∀ o, ((touch st id .dead).heap ++ [ob'])[j]? = some o → o = .dead ∨ st.heap[j]? = some o := by
      intro j hj o ho
      rw [List.getElem?_append_left (by rw [hlen]; exact hj)] at ho
      by_cases e : j = id
      · subst e
        simp [touch, setO, hid] at ho
        exact .inl ho.symm
      · simp only [touch, setO] at ho
        rw [List.getElem?_set_ne (Ne.symm e)] at ho
        exact .inr ho
    refine fun j hj => ⟨?_, ?_⟩
    · rintro ⟨o, ho, hs⟩
      rcases key j hj o ho with rfl | h1
      · exact hs.elim
      · exact ⟨o, h1, solid_eq (hagr j (.inl hj)) hs⟩
    · rintro ⟨o, ho, hs⟩
      rcases key j hj o ho with rfl | h1
      · exact hs.elim
      · exact ⟨o, h1, solid0_eq (hagr j (.inl hj)) hs⟩
theorem stp_kill (h : Sim cx.glob E st.heap w) (id : Nat) (hid : id < st.heap.length) (ob : Ob T) (hold : st.heap[id]? = some ob) : Stp cx.glob E st w E (touch st id .dead) w :=
  stp_touch h id hid ob .dead hold ⟨fun hs => hs.elim, fun hs => hs.elim⟩ rfl (fun _ _ => rfl) (fun _ => rfl) rfl rfl rfl trivial
theorem elemsL_sound (hS : Sim cx.glob E st.heap w) {e : TypeId} {x x' : Value} {xs : List (T e).ty} (h : elemsL cx st.heap e x = some xs) (hx : VR E st.heap.length x x') (hpl : (T e).plain = true) {s : Nat} (hsz : sizeL cx e = some s) (hs : s = (T e).size) :
    ∃ b n c, x' = .slice b n c ∧ n = xs.length ∧ ∀ W : World, W.heap = w.heap → (Builtin.firstCells s n x').run cx.P W = .ok (encAll (T e) xs).toArray W := by
  subst hs
  have nilc : ∀ (b : Option Addr) (c : Nat) (W : World), (Builtin.firstCells (T e).size 0 (.slice b 0 c)).run cx.P W = .ok #[] W := by
    intro b c W
    cases b <;> simp [Builtin.firstCells, loadCells, loadCellsFrom]
  have cellW : ∀ (W : World), W.heap = w.heap → ∀ ad, W.cell? ad = w.cell? ad := by intro W hW ad; simp [World.cell?, hW]
  have some_ : ∀ (bl off n c : Nat) (l : List Value), l.length = n * (T e).size → (∀ j v, l[j]? = some v → w.cell? ⟨bl, off + j, none⟩ = some v) → ∀ W : World, W.heap = w.heap →
      (Builtin.firstCells (T e).size n (.slice (some ⟨bl, off, none⟩) n c)).run cx.P W = .ok l.toArray W := by
    intro bl off n c l hl hc W hW
    exact run_firstCells_some W (T e).size n ⟨bl, off, none⟩ n c l hl (fun j v hv => by rw [Addr.add_lit, cellW W hW]; exact hc j v hv)
  unfold elemsL at h
  split at h
  · obtain ⟨rfl, rfl, rfl⟩ := nilsl_inv hx
    simp at h; subst h
    exact ⟨none, 0, 0, rfl, rfl, fun W _ => nilc _ _ W⟩
  · rename_i id off sp n c
    split at h
    · rename_i wr e' xs0 hlo
      obtain ⟨hpl', hes, hn⟩ := row_shape hS hlo
      split at h
      · rename_i xs1 hcast
        unfold castRow at hcast
        split at hcast
        · next he =>
          subst he
          simp at hcast; subst hcast
          have cells : xs0 ≠ [] → ∀ j v, (encAll (T e') xs0)[j]? = some v → w.cell? ⟨(E id).blk, (E id).base + j, none⟩ = some v := by
            intro hne j v hv
            obtain ⟨_, _, _, c0, t0, fr, hb, _, _, hc⟩ := row_cells hS hlo hne
            have := hc j v hv
            simp [World.cell?, hb, this]
          split at h
          · split at h
            · rename_i hn0
              have hn0 := Nat.eq_of_beq_eq_true hn0
              subst hn0
              simp at h; subst h
              have hc0 : c = 0 ∧ off = 0 := by
                cases hx with
                | scal _ hs => simp [scalar] at hs
                | wsl => exact ⟨rfl, rfl⟩
                | wsl0 => exact ⟨rfl, rfl⟩
                | fsl _ _ _ _ _ h _ => exact absurd rfl h
              obtain ⟨rfl, rfl⟩ := hc0
              obtain ⟨hid, hh⟩ := wsl_inv hx
              rcases hh with ⟨c', _, _, rfl⟩ | ⟨hz, b, rfl⟩
              · refine ⟨_, _, _, rfl, hn, fun W hW => ?_⟩
                by_cases hne : xs0 = []
                · subst hne
                  rw [hn]; exact nilc _ _ W
                · exact some_ _ _ _ _ _ (by rw [encAll_len, hn]) (cells hne) W hW
              · have : xs0 = [] := List.eq_nil_of_length_eq_zero (by omega)
                subst this
                exact ⟨_, _, _, rfl, rfl, fun W _ => nilc _ _ W⟩
            · cases h
          · rename_i j0
            simp at h; subst h
            have hj0 : j0 = 0 := by cases hx <;> first | rfl | (rename_i h; simp [scalar] at h)
            subst hj0
            obtain ⟨hid, hon, _, _, hh⟩ := gsl_inv hx
            have hlen : ((xs0.drop off).take n).length = n := by simp; omega
            rcases hh with ⟨c', _, _, rfl⟩ | ⟨hz, hz', b, rfl⟩
            · refine ⟨_, _, _, rfl, hlen.symm, fun W hW => ?_⟩
              by_cases hn0 : n = 0
              · subst hn0
                simp only [locA]
                have := nilc (some ⟨(E id).blk, (E id).base + off * (E id).es + 0, none⟩) c' W
                simpa [encAll] using this
              · have hne : xs0 ≠ [] := by intro e; subst e; simp at hn; omega
                refine some_ _ _ _ _ _ (by rw [encAll_len, hlen]) (fun j v hv => ?_) W hW
                have hsub : (encAll (T e') xs0)[off * (T e').size + j]? = some v := by
                  have h1 : encAll (T e') xs0 = encAll (T e') (xs0.take off) ++ (encAll (T e') ((xs0.drop off).take n) ++ encAll (T e') ((xs0.drop off).drop n)) := by
                    rw [← encAll_append, ← encAll_append, List.take_append_drop, List.take_append_drop]
                  have h2 : (encAll (T e') (xs0.take off)).length = off * (T e').size := by rw [encAll_len, List.length_take, Nat.min_eq_left (by omega)]
                  rw [h1, List.getElem?_append_right (by omega), h2, show off * (T e').size + j - off * (T e').size = j by omega]
                  rw [List.getElem?_append_left (List.getElem?_eq_some_iff.1 hv).1]; exact hv
                have := cells hne _ v hsub
                simpa [locA, hes, Nat.add_assoc] using this
            · subst hz
              exact ⟨_, _, _, rfl, by simp, fun W _ => by simpa [encAll] using nilc _ _ W⟩
        · cases hcast
      · cases h
    · cases h
  · cases h
end
end Go.Proofs.YtlflclfhldghbaaGreatDoor.Ls
end
section
namespace Go.Proofs.YtlflclfhldghbaaGreatDoor.Ls
open Go
section
variable {T : TypeId → VS} {cx : Cx T} {E : Emb} {st : St T} {a : Act} {w : World} {o : Oper}
theorem run_append_room' {P : Program} (w : World) {t ty e : TypeId} {i : TypeInfo} (ht : P.underlying t = some (.slice e)) (hi : P.info? e = some i) (b : Option Addr) (n c m c' : Nat) (x : Option Addr) (news : Array Value)
    (hn : (Builtin.firstCells i.size m (.slice x m c')).run P w = .ok news w) (h : n + m ≤ c) {w' : World}
    (hst : ∀ ad, b = some ad → (storeCells (ad.add (n * i.size)) news.toList).run P w = .ok () w') (hnone : b = none → w' = w) :
    (Builtin.append_ #[t, t] ty #[.slice b n c, .slice x m c']).run P w = .ok (.slice b (n + m) c) w' := by
  cases b with
  | none =>
    have := hnone rfl; subst this
    simp [Builtin.append_, run_underlying ht, sizeOf, typeInfo, hi, Builtin.lenOf, h, hn]
  | some ad =>
    have := hst ad rfl
    simp [Builtin.append_, run_underlying ht, sizeOf, typeInfo, hi, Builtin.lenOf, h, hn, this]
theorem run_append_grow' {P : Program} (w : World) {t ty e : TypeId} {i : TypeInfo} {z : Value} (ht : P.underlying t = some (.slice e)) (hi : P.info? e = some i) (hz : i.zero = some z) (b : Option Addr) (n c m c' : Nat) (x : Option Addr) (olds news : Array Value)
    (ho : (Builtin.firstCells i.size n (.slice b n c)).run P w.drew = .ok olds w.drew) (hn : (Builtin.firstCells i.size m (.slice x m c')).run P w.drew = .ok news w.drew) (h : c < n + m)
    (h63 : ((n + m : Nat) : Int) ≤ 9223372036854775807) (hfit : Builtin.nextslicecap (n + m) c * i.bytes ≤ 281474976710656) :
    (Builtin.append_ #[t, t] ty #[.slice b n c, .slice x m c']).run P w = .ok (.slice (some ⟨w.heap.size, 0, none⟩) (n + m) (grownCap w (n + m) c e))
        (w.drew.alloc (.cells (olds ++ news ++ Builtin.zeroCells z.cells (grownCap w (n + m) c e - (n + m))) e)) := by
  have hn' : ¬ (n + m ≤ c) := by omega
  have h63' : ¬ (9223372036854775807 < ((n : Int) + (m : Int))) := by omega
  have h48' : ¬ (281474976710656 < Builtin.nextslicecap (n + m) c * i.bytes) := by omega
  simp [Builtin.append_, run_underlying ht, sizeOf, typeInfo, zeroValue, hi, hz, Builtin.lenOf, hn', h63', h48', Question.forced, hn, ho, newRow, grownCap]
theorem zeroCells_size (z : Array Value) (n : Nat) : (Builtin.zeroCells z n).size = n * z.size := by simp [Builtin.zeroCells]
set_option maxHeartbeats 2000000 in
theorem op_append (hS : Sim cx.glob E st.heap w) (hV : EnvR E st.heap.length st.env a) {c : Call} {t : TypeId} {s x : Operand} {v : Value} {st' : St T} (hc : c.callee = .builtin .append) (ht : c.argTypes = #[t, t]) (ha : c.args = #[s, x])
    (h : appendL cx st t (st.ev s) (st.ev x) = some (v, st')) (hok : st'.ok = true) (hle : st'.heap.length ≤ GB) (ho : o.op = .call c) : st.ok = true ∧ OpOK cx E st a w o (.val v st') := by
  have hs := ev_rel hS hV s
  have hx := ev_rel hS hV x
  have he : execOp a.eval o = (do pure (.value (← Builtin.append_ #[t, t] o.type #[a.eval s, a.eval x]))) := by
    simp [execOp, ho, resolve, hc, ht, ha, invoke, builtin]
  generalize st.ev s = S at *
  generalize st.ev x = X at *
  generalize a.eval s = S' at *
  generalize a.eval x = X' at *
  unfold appendL at h
  split at h
  · rename_i e hu
    split at h
    · rename_i i z hi hpl hz
      split at h
      · rename_i hszs hby
        simp at hszs
        obtain ⟨hsz, hzs⟩ := hszs
        have hby : i.bytes ≠ 0 := Nat.ne_of_beq_eq_false hby
        obtain ⟨i', zv, hi', hzv, hzc, hzl⟩ := zeroL_eq hz
        rw [hi] at hi'; cases hi'
        have hzsz : zv.cells.size = (T e).size := by
          have := (const_cells (E := E) (N := 0) hzc).1
          rw [← hzl, hzs] at this; simpa using this.symm
        have hsl : sizeL cx e = some i.size := by simp [sizeL, hi]
        split at h
        · rename_i xs ys hxs hys
          obtain ⟨b, n, c0, rfl, hn, hcs⟩ := elemsL_sound hS hxs hs hpl hsl hsz
          obtain ⟨bx, m, cx0, rfl, hm, hcx⟩ := elemsL_sound hS hys hx hpl hsl hsz
          have hnew : ∀ W : World, W.heap = w.heap → (Builtin.firstCells i.size m (.slice bx m cx0)).run cx.P W = .ok (encAll (T e) ys).toArray W := hcx
          have hall : encAll (T e) (xs ++ ys) = encAll (T e) xs ++ encAll (T e) ys := encAll_append _ _ _
          have guard : ∀ {g : Bool}, g = Nat.ble ((xs.length + ys.length) * i.bytes) maxRoom → g = true → (n + m) * i.bytes ≤ 140737488355328 := by
            intro g hg1 hg2
            rw [hg1] at hg2
            have := Nat.le_of_ble_eq_true hg2
            rw [hn, hm]; exact this
          have grow : ∀ (hbig : (n + m) * i.bytes ≤ 140737488355328) (hgr : c0 < n + m), ∃ C : Array Value, (Builtin.append_ #[t, t] o.type #[.slice b n c0, .slice bx m cx0]).run cx.P w =
              .ok (.slice (some ⟨w.heap.size, 0, none⟩) (n + m) (grownCap w (n + m) c0 e)) (w.drew.alloc (.cells C e)) ∧ (∀ (j : Nat) (u : Value), (encAll (T e) (xs ++ ys))[j]? = some u → C[j]? = some u) ∧ grownCap w (n + m) c0 e * (T e).size ≤ C.size := by
            intro hbig hgr
            have hm1 : n + m ≤ (n + m) * i.bytes := Nat.le_mul_of_pos_right _ (by omega)
            have r := run_append_grow' (P := cx.P) w (ty := o.type) hu hi hzv b n c0 m cx0 bx _ _ (hcs w.drew rfl) (hnew w.drew rfl) hgr (by omega) (growslice_fits hgr hbig)
            refine ⟨_, r, fun j u hj => ?_, ?_⟩
            · rw [hall] at hj
              have hjl := (List.getElem?_eq_some_iff.1 hj).1
              rw [Array.getElem?_append_left (by simpa using hjl)]
              simpa using hj
            · have hg := grownCap_ge w (n + m) c0 e
              simp only [Array.size_append, List.size_toArray, encAll_len, zeroCells_size, hzsz]
              rw [← hn, ← hm, ← Nat.add_mul, ← Nat.add_mul]
              exact Nat.mul_le_mul_right _ (by omega)
          split at h
          ·
            obtain ⟨rfl, rfl, hb⟩ := nilsl_inv hs
            cases hb
            simp at h; obtain ⟨rfl, rfl⟩ := h
            obtain ⟨hok1, hg⟩ := need_okb (st := st) (g := Nat.ble ((xs.length + ys.length) * i.bytes) maxRoom) hok
            simp at hle
            have hxe : xs = [] := List.eq_nil_of_length_eq_zero hn.symm
            subst hxe
            refine ⟨hok1, ?_⟩
            by_cases hm0 : m = 0
            · have hye : ys = [] := List.eq_nil_of_length_eq_zero (by omega)
              subst hye
              have r := run_append_room' (P := cx.P) w (ty := o.type) hu hi none 0 0 m cx0 bx _ (hnew w rfl) (by omega) (w' := w) (by simp) (fun _ => rfl)
              rw [hm0] at r
              have hstp := new_none hS (by omega) e hpl
              refine ok_value (E' := updE E st.heap.length ⟨w.heap.size, 0, 0, (T e).size, 0, true⟩) he (by rw [hm0]; exact r) ?_ (hstp.of rfl rfl (fun _ h => h) (fun _ h => h) rfl)
              simp only [List.length_append, List.length_cons, List.length_nil]
              exact new_whole (.inr ⟨rfl, _, rfl⟩)
            · obtain ⟨C, r, h1, h2⟩ := grow (guard rfl hg) (by omega)
              have hstp := new_row (cx := cx) hS (by omega) ([] ++ ys) hpl (grownCap w (0 + m) 0 e) e h1 (by have := grownCap_ge w (0 + m) 0 e; rw [List.nil_append]; omega) h2 (w0 := w.drew) rfl rfl rfl rfl
              refine ok_value he r ?_ (hstp.of rfl rfl (fun _ h => h) (fun _ h => h) rfl)
              simp only [List.length_append, List.length_cons, List.length_nil]
              refine new_whole (.inl ⟨grownCap w (0 + m) 0 e, ?_, Nat.le_refl _, ?_⟩)
              · have := grownCap_ge w (0 + m) 0 e; simp only [List.nil_append]; omega
              · simp [hm]
          · rename_i id off n1 c1
            split at h
            · rename_i e0 xs0 hgb hn1 hlk
              have hn1 := Nat.eq_of_beq_eq_true hn1
              subst hn1
              simp at h; obtain ⟨rfl, rfl⟩ := h
              obtain ⟨hok1, hg⟩ := need_okb (st := st) (g := Nat.ble ((xs.length + ys.length) * i.bytes) maxRoom) hok
              have hlen0 : (touch st id .dead).heap.length = st.heap.length := by simp [touch, setO]
              simp [hlen0] at hle
              have hid : id < st.heap.length := (List.getElem?_eq_some_iff.1 hlk).1
              have hlo : lookO cx.glob st.heap id = some (.row true e0 xs0) := by rw [lookO_lt (Nat.lt_of_lt_of_le hid hS.le)]; exact hlk
              have hcast : castRow e0 e xs0 = some xs := by
                unfold elemsL at hxs
                simp only [hlo] at hxs
                split at hxs
                · rename_i xs1 hx1
                  simp [Nat.beq] at hxs
                  rw [hx1, hxs]
                · cases hxs
              unfold castRow at hcast
              split at hcast
              case isFalse => cases hcast
              rename_i he0
              subst he0
              simp at hcast
              subst hcast
              refine ⟨hok1, ?_⟩
              have hc1 : c1 = 0 ∧ off = 0 := by
                cases hs with
                | scal _ hs => simp [scalar] at hs
                | wsl => exact ⟨rfl, rfl⟩
                | wsl0 => exact ⟨rfl, rfl⟩
                | fsl _ _ _ _ _ h _ => exact absurd rfl h
              obtain ⟨rfl, rfl⟩ := hc1
              obtain ⟨hide, hh⟩ := wsl_inv hs
              have viaNew : ∀ (L : Loc) (w1 : World) (v' : Value), Stp cx.glob E (touch st id .dead) w (updE E st.heap.length L) { (touch st id .dead) with heap := (touch st id .dead).heap ++ [.row true e0 (xs0 ++ ys)] } w1 →
                  (Builtin.append_ #[t, t] o.type #[.slice b n c0, .slice bx m cx0]).run cx.P w = .ok v' w1 → ((∃ c, L.n ≤ c ∧ c ≤ L.lim ∧ v' = .slice (some ⟨L.blk, L.base, none⟩) L.n c) ∨ (L.n = 0 ∧ ∃ x, v' = .slice x 0 0)) →
                  OpOK cx E st a w o (.val (.slice (some ⟨st.heap.length, 0, none⟩) 0 0) { (touch (st.need (some (Nat.ble ((xs0.length + ys.length) * i.bytes) maxRoom))) id .dead) with heap := (touch st id .dead).heap ++ [.row true e0 (xs0 ++ ys)] }) := by
                intro L w1 v' hstp r hv
                have hk := stp_kill (cx := cx) hS id hid _ hlk
                refine ok_value he r ?_ ((hk.trans hstp).of rfl rfl (fun _ h => h) (touch_mono st id .dead) rfl)
                simp only [List.length_append, List.length_cons, List.length_nil, hlen0]
                exact new_whole hv
              have hSk : Sim cx.glob E (touch st id .dead).heap w := (stp_kill (cx := cx) hS id hid _ hlk).sim
              by_cases hroom : n + m ≤ c0
              · rcases hh with ⟨c2, hc2, hc3, heq⟩ | ⟨hz0, bb, heq⟩
                · simp at heq
                  obtain ⟨rfl, rfl, rfl⟩ := heq
                  by_cases hlim : (E id).lim = 0
                  ·
                    have hm0 : m = 0 := by omega
                    have hn0 : (E id).n = 0 := by omega
                    have hye : ys = [] := List.eq_nil_of_length_eq_zero (by omega)
                    have hxe : xs0 = [] := List.eq_nil_of_length_eq_zero (by omega)
                    subst hye; subst hxe
                    have hstp := new_none (st := touch st id .dead) hSk (by rw [hlen0]; omega) e0 hpl
                    rw [hlen0] at hstp
                    have r := run_append_room' (P := cx.P) w (ty := o.type) hu hi (some ⟨(E id).blk, (E id).base, none⟩) (E id).n c0 m cx0 bx _ (hnew w rfl) hroom (w' := w) (fun ad had => by simp [encAll, storeCells]) (by simp)
                    refine viaNew _ w _ hstp r (.inr ⟨rfl, ?_⟩)
                    exact ⟨some ⟨(E id).blk, (E id).base, none⟩, by rw [hn0, hm0, show c0 = 0 by omega]⟩
                  · obtain ⟨q1, q2, q3, q4, q5⟩ := hS.ob id _ hlo
                    rcases q5 with q5 | ⟨C, t', fr, hb, hwr, hszc, hcs'⟩
                    · exact absurd q5 hlim
                    · obtain ⟨hfr, hroomC, hrw⟩ := hwr rfl
                      subst hfr
                      have hel : (encAll (T e0) (xs0 ++ ys)).length = (xs0.length + ys.length) * (T e0).size := by rw [encAll_len]; simp
                      have hbnd : (E id).base + xs0.length * (T e0).size + (encAll (T e0) ys).length ≤ C.toList.length := by
                        rw [encAll_len, Nat.add_assoc, ← Nat.add_mul]
                        have h3 : (xs0.length + ys.length) * (T e0).size ≤ (E id).lim * (T e0).size := Nat.mul_le_mul_right _ (by omega)
                        rw [q2] at hroomC
                        simp only [Array.length_toList]; omega
                      have hrun := run_storeCells_at (P := cx.P) (E id).blk ((E id).base + xs0.length * (T e0).size) t' (encAll (T e0) ys) 0 C w hb (by simpa using hbnd)
                        (fun u hu => by have := encAll_ground _ hpl ys u hu; cases u <;> simp [ground1] at this <;> rfl)
                      simp only [Nat.add_zero] at hrun
                      have r := run_append_room' (P := cx.P) w (ty := o.type) hu hi (some ⟨(E id).blk, (E id).base, none⟩) (E id).n c0 m cx0 bx _ (hnew w rfl) hroom
                        (w' := w.setRow (E id).blk (splice C.toList ((E id).base + xs0.length * (T e0).size) (encAll (T e0) ys)).toArray)
                        (fun ad had => by
                          cases had
                          rw [Addr.add_lit, hsz, q3]
                          rw [hrun]
                          simp [splice, List.append_assoc]) (by simp)
                      refine ok_value (E' := updE E st.heap.length ⟨(E id).blk, (E id).base, (E id).lim, (T e0).size, xs0.length + ys.length, true⟩) he r ?_ ?_
                      · simp only [List.length_append, List.length_cons, List.length_nil, hlen0]
                        refine new_whole (.inl ⟨c0, (by show xs0.length + ys.length ≤ c0; omega), hc3, ?_⟩)
                        show _ = Value.slice (some ⟨(E id).blk, (E id).base, none⟩) (xs0.length + ys.length) c0
                        rw [q3, hm]
                      · have hstp := stp_reuse (cx := cx) (w' := w.setRow (E id).blk (splice C.toList ((E id).base + xs0.length * (T e0).size) (encAll (T e0) ys)).toArray) hS id hid (by omega) (.row true e0 xs0) (.row true e0 (xs0 ++ ys)) hlk ⟨hlim, hrw⟩
                          ⟨(E id).blk, (E id).base, (E id).lim, (T e0).size, xs0.length + ys.length, true⟩ rfl (by simp) (fun b hb' => setRow_other w _ _ _ hb') rfl rfl rfl ?_
                        · exact hstp.of rfl rfl (fun _ h => h) (touch_mono st id .dead) rfl
                        · refine ⟨hpl, by rw [updE_self], by rw [updE_self]; simp, by rw [updE_self]; show xs0.length + ys.length ≤ (E id).lim; omega, ?_⟩
                          rw [updE_self]
                          refine .inr ⟨_, t', (0, 0), setRow_heap w _ C _ t' _ hb, fun _ => ⟨rfl, ?_, rfl⟩, ?_, fun j u hj => ?_⟩
                          · simp only [List.size_toArray]; rw [splice_len hbnd]; rw [q2] at hroomC; simpa using hroomC
                          · simp only [List.size_toArray, List.length_append]; rw [splice_len hbnd]
                            rw [encAll_len, Nat.add_assoc, ← Nat.add_mul] at hbnd; exact hbnd
                          · simp only [List.getElem?_toArray]
                            rw [splice_get hbnd]
                            rw [hall] at hj
                            have hxl : (encAll (T e0) xs0).length = xs0.length * (T e0).size := encAll_len _ _
                            by_cases hjl : j < xs0.length * (T e0).size
                            · rw [List.getElem?_append_left (by omega)] at hj
                              rw [if_neg (by omega)]
                              simpa using hcs' j u hj
                            · rw [List.getElem?_append_right (by omega), hxl] at hj
                              have := (List.getElem?_eq_some_iff.1 hj).1
                              rw [if_pos (by omega), ← hj]
                              congr 1; omega
                · simp at heq
                  obtain ⟨rfl, rfl, rfl⟩ := heq
                  have hm0 : m = 0 := by omega
                  have hye : ys = [] := List.eq_nil_of_length_eq_zero (by omega)
                  have hxe : xs0 = [] := List.eq_nil_of_length_eq_zero (by omega)
                  subst hye; subst hxe
                  have hstp := new_none (st := touch st id .dead) hSk (by rw [hlen0]; omega) e0 hpl
                  rw [hlen0] at hstp
                  have r := run_append_room' (P := cx.P) w (ty := o.type) hu hi b 0 0 m cx0 bx _ (hnew w rfl) hroom (w' := w) (fun ad had => by simp [encAll, storeCells]) (fun _ => rfl)
                  exact viaNew _ w _ hstp r (.inr ⟨rfl, b, by rw [hm0]⟩)
              · obtain ⟨C, r, h1, h2⟩ := grow (guard rfl hg) (by omega)
                have hstp := new_row (cx := cx) (st := touch st id .dead) hSk (by rw [hlen0]; omega) (xs0 ++ ys) hpl (grownCap w (n + m) c0 e0) e0 h1 (by have := grownCap_ge w (n + m) c0 e0; simp; omega) h2 (w0 := w.drew) rfl rfl rfl rfl
                rw [hlen0] at hstp
                refine viaNew _ _ _ hstp r (.inl ⟨grownCap w (n + m) c0 e0, ?_, Nat.le_refl _, ?_⟩)
                · have := grownCap_ge w (n + m) c0 e0; simp; omega
                · simp [hn, hm]
            · cases h
          · cases h
        · cases h
      · cases h
    · cases h
  · cases h
end
end Go.Proofs.YtlflclfhldghbaaGreatDoor.Ls
end
section
namespace Go.Proofs.YtlflclfhldghbaaGreatDoor.Ls
open Go
section
variable {T : TypeId → VS} {cx : Cx T} {E : Emb} {st : St T} {a : Act} {w : World} {o : Oper}
theorem zeroCells_enc {s : VS} {z : Array Value} {y : s.ty} (hz : z.toList = s.enc rid false y []) (n : Nat) : (Builtin.zeroCells z n).toList = encAll s (List.replicate n y) := by
  have hsz : z.size = s.size := by
    have := congrArg List.length hz
    rw [plain_len] at this
    simpa using this
  apply List.ext_getElem?
  intro i
  by_cases hi : i < n * s.size
  · have hs : 0 < s.size := by
      rcases Nat.eq_zero_or_pos s.size with h | h
      · simp [h] at hi
      · exact h
    have h1 : i / s.size < n := Nat.div_lt_of_lt_mul (by rw [Nat.mul_comm]; exact hi)
    have h2 := Nat.mod_lt i hs
    have h3 := encAll_get s (List.replicate n y) (i / s.size) y (by simp [h1]) (i % s.size) h2
    rw [Nat.div_add_mod', ← hz] at h3
    rw [h3]
    simp [Builtin.zeroCells, hsz, hi, h2]
  · rw [List.getElem?_eq_none (by simp [Builtin.zeroCells, hsz]; omega), List.getElem?_eq_none (by rw [encAll_len]; simp; omega)]
theorem op_clear (hS : Sim cx.glob E st.heap w) (hV : EnvR E st.heap.length st.env a) {c : Call} {t : TypeId} {x : Operand} {st' : St T} (hc : c.callee = .builtin .clear) (ht : c.argTypes = #[t]) (ha : c.args = #[x])
    (h : clearL cx st t (st.ev x) = some st') (ho : o.op = .call c) : OpOK cx E st a w o (.val (.tuple #[]) st') := by
  have hx := ev_rel hS hV x
  have he : execOp a.eval o = (do pure (.value (← Builtin.clear_ #[t] o.type #[a.eval x]))) := by
    simp [execOp, ho, resolve, hc, ht, ha, invoke, builtin]
  generalize st.ev x = X at *
  generalize a.eval x = X' at *
  have hunit : ∀ {N : Nat}, VR E N (.tuple #[]) (.tuple #[]) := VR.tup_mk .nil
  unfold clearL at h
  split at h
  · rename_i e hu
    split at h
    · rename_i s z hs hpl hz
      split at h
      · rename_i y A hse hd
        have hse := Nat.eq_of_beq_eq_true hse
        subst hse
        split at h
        · rename_i id off n c0
          split at h
          · rename_i e' xs0 hgb hlk
            split at h
            · rename_i xs hcast
              unfold castRow at hcast
              split at hcast
              case isFalse => cases hcast
              rename_i he0
              subst he0
              simp at hcast
              subst hcast
              simp at h; subst h
              have hid : id < st.heap.length := (List.getElem?_eq_some_iff.1 hlk).1
              have hlo : lookO cx.glob st.heap id = some (.row true e' xs0) := by rw [lookO_lt (Nat.lt_of_lt_of_le hid hS.le)]; exact hlk
              obtain ⟨hide, hon, hnc, hoc, hh⟩ := gsl_inv hx
              obtain ⟨q1, q2, q3, q4, q5⟩ := hS.ob id _ hlo
              obtain ⟨i', zv, hi', hzv, hzc, hzl⟩ := zeroL_eq hz
              have zero : ∀ b c', n = 0 → X' = .slice b 0 c' → OpOK cx E st a w o (.val (.tuple #[]) (touch st id (.row true e' (xs0.take off ++ (List.replicate n y ++ xs0.drop (off + n)))))) := by
                intro b c' hn0 hX
                subst hn0; subst hX
                have r : (Builtin.clear_ #[t] o.type #[.slice b 0 c']).run cx.P w = .ok (.tuple #[]) w := by
                  cases b <;> simp [Builtin.clear_, run_underlying hu]
                have hsame : xs0.take off ++ (List.replicate 0 y ++ xs0.drop (off + 0)) = xs0 := by simp
                rw [hsame]
                exact ok_value he r hunit (stp_touch hS id hid _ _ hlk ⟨fun h => h, fun h => h⟩ rfl (fun _ _ => rfl) (fun _ => rfl) rfl rfl rfl (hS.ob id _ hlo))
              rcases hh with ⟨c', hc1, hc2, rfl⟩ | ⟨hz0, hc0, x', rfl⟩
              · by_cases hn0 : n = 0
                · exact zero _ _ hn0 (by rw [hn0])
                · obtain ⟨k, rfl⟩ : ∃ k, n = k + 1 := ⟨n - 1, by omega⟩
                  obtain ⟨h1, h2, h3, C, t', fr, hb, hwr, hsz, hcs⟩ := row_cells hS hlo (by intro e; subst e; simp at q3; omega)
                  obtain ⟨hfr, hroom, hrw⟩ := hwr rfl
                  subst hfr
                  have hzy : zv.cells.toList = (T e').enc rid false y [] := by
                    rw [← dec_plain rid (T e') hpl _ _ _ _ _ hd, hzl]
                    exact (const_cells (E := E) (N := 0) hzc).ground_eq (fun v hv => by
                      have h5 := dec_plain rid (T e') hpl _ _ _ _ _ hd
                      rw [hzl] at h5
                      rw [h5] at hv
                      exact ground_of_enc hpl y v hv)
                  have hzc' := zeroCells_enc hzy (k + 1)
                  have hvl : (encAll (T e') (List.replicate (k + 1) y)).length = (k + 1) * (T e').size := by rw [encAll_len]; simp
                  have hmul : off * (T e').size + (k + 1) * (T e').size ≤ xs0.length * (T e').size := by rw [← Nat.add_mul]; exact Nat.mul_le_mul_right _ (by omega)
                  have hbnd : (E id).base + off * (E id).es + (encAll (T e') (List.replicate (k + 1) y)).length ≤ C.toList.length := by
                    rw [hvl, h2, Array.length_toList]; rw [h2] at hsz; omega
                  have hrun := run_storeCells_at (P := cx.P) (E id).blk ((E id).base + off * (E id).es) t' (encAll (T e') (List.replicate (k + 1) y)) 0 C w hb (by simpa using hbnd)
                    (fun u hu => by have := encAll_ground _ hpl _ u hu; cases u <;> simp [ground1] at this <;> rfl)
                  simp only [Nat.add_zero] at hrun
                  have r : (Builtin.clear_ #[t] o.type #[.slice (some (locA E ⟨id, off, some 0⟩)) (k + 1) c']).run cx.P w = .ok (.tuple #[]) (w.setRow (E id).blk (splice C.toList ((E id).base + off * (E id).es) (encAll (T e') (List.replicate (k + 1) y))).toArray) := by
                    simp [Builtin.clear_, run_underlying hu, run_zeroValue hi' hzv, hzc', locA]
                    rw [hrun]
                    simp [splice, List.append_assoc]
                  refine ok_value he r hunit ?_
                  refine stp_touch (glob := cx.glob) (st := st) hS id hid (.row true e' xs0) _ hlk ⟨fun h => h, fun h => h⟩ (by simp) (fun b hb' => setRow_other w _ _ _ hb') (fun hns => absurd (show solid E id (Ob.row true e' xs0) from ⟨by omega, hrw⟩) hns) rfl rfl rfl ?_
                  have hlen : (xs0.take off ++ (List.replicate (k + 1) y ++ xs0.drop (off + (k + 1)))).length = xs0.length := by simp; omega
                  refine ⟨h1, h2, by rw [hlen]; exact q3, q4, .inr ⟨_, t', (0, 0), store_heap w hb _, fun _ => ⟨rfl, ?_, hrw⟩, ?_, fun i v hi => ?_⟩⟩
                  · simp only [List.size_toArray]; rw [splice_len hbnd]; simpa using hroom
                  · simp only [List.size_toArray, hlen]; rw [splice_len hbnd]; simpa using hsz
                  · simp only [List.getElem?_toArray]
                    rw [splice_get hbnd, hvl, h2]
                    have hspl : xs0 = xs0.take off ++ ((xs0.drop off).take (k + 1) ++ xs0.drop (off + (k + 1))) := by
                      rw [← List.drop_drop, List.take_append_drop, List.take_append_drop]
                    have hA : (encAll (T e') (xs0.take off)).length = off * (T e').size := by rw [encAll_len, List.length_take, Nat.min_eq_left (by omega)]
                    have hM : (encAll (T e') ((xs0.drop off).take (k + 1))).length = (k + 1) * (T e').size := by rw [encAll_len, List.length_take, Nat.min_eq_left (by simp; omega)]
                    rw [encAll_append, encAll_append] at hi
                    have hcs' : ∀ (i : Nat) (v : Value), (encAll (T e') (xs0.take off) ++ (encAll (T e') ((xs0.drop off).take (k + 1)) ++ encAll (T e') (xs0.drop (off + (k + 1)))))[i]? = some v → C[(E id).base + i]? = some v := by
                      intro i v hiv
                      rw [← encAll_append, ← encAll_append, ← hspl] at hiv
                      exact hcs i v hiv
                    by_cases hi1 : i < off * (T e').size
                    · rw [if_neg (by omega)]
                      rw [List.getElem?_append_left (by omega)] at hi
                      simpa using hcs' i v (by rw [List.getElem?_append_left (by omega)]; exact hi)
                    · rw [List.getElem?_append_right (by omega), hA] at hi
                      by_cases hi2 : i - off * (T e').size < (k + 1) * (T e').size
                      · rw [List.getElem?_append_left (by omega)] at hi
                        rw [if_pos (by omega), ← hi]; congr 1; omega
                      · rw [List.getElem?_append_right (by omega), hvl] at hi
                        rw [if_neg (by omega)]
                        simpa using hcs' i v (by rw [List.getElem?_append_right (by omega), hA, List.getElem?_append_right (by omega), hM]; exact hi)
              · exact zero _ _ hz0 rfl
            · cases h
          · cases h
        · cases h
      · cases h
    · cases h
  · cases h
theorem op_nilCmp (hS : Sim cx.glob E st.heap w) (hV : EnvR E st.heap.length st.env a) {op : BinOp} {t yt : TypeId} {x y : Operand} {v : Value} {g : Option Bool} (h : nilCmp cx st.heap op t (st.ev x) (st.ev y) = some (v, g)) (hg : g ≠ some false)
    (ho : o.op = .binOp op t x y yt) : OpOK cx E st a w o (.val v (st.need g)) := by
  have hx := ev_rel hS hV x
  have hy := ev_rel hS hV y
  have key : ∀ v', ((do eqGuard op t x y (a.eval x) (a.eval y); binOp op t (a.eval x) (a.eval y)) : Sem Value).run cx.P w = .ok v' w → VR E st.heap.length v v' → OpOK cx E st a w o (.val v (st.need g)) :=
    fun v' h1 h2 => ok_value (s := do eqGuard op t x y (a.eval x) (a.eval y); binOp op t (a.eval x) (a.eval y)) (by simp [execOp, ho]) h1 (by rw [need_heap]; exact h2) (stp_need hS g)
  generalize st.ev x = X at *
  generalize st.ev y = Y at *
  generalize a.eval x = X' at *
  generalize a.eval y = Y' at *
  unfold nilCmp at h
  split at h
  · rename_i id
    split at h
    · obtain ⟨_, _, rfl⟩ := nilsl_inv hy
      split at h
      · rename_i wr e xs e2 hlk hu
        obtain ⟨_, _, hn⟩ := row_shape hS hlk
        obtain ⟨hid, hh⟩ := wsl_inv hx
        have main : ∀ b, (op = .eql ∨ op = .neq) → v = .bool b → g = some (Nat.blt 0 xs.length) → b = (if op = .eql then false else !false) → OpOK cx E st a w o (.val v (st.need g)) := by
          intro b hop hv hge hb
          subst hv; subst hge
          have hlt : 0 < xs.length := by
            cases hbl : Nat.blt 0 xs.length with
            | true => exact blt_lt hbl
            | false => rw [hbl] at hg; exact absurd rfl hg
          rcases hh with ⟨c, hc1, hc2, rfl⟩ | ⟨hz, _⟩
          · have heq : (Op.equal t (.slice (some ⟨(E id).blk, (E id).base, none⟩) (E id).n c) (.slice none 0 0)).run cx.P w = .ok false w := by
              show (Op.equalIn (9999 + 1) t _ _).run cx.P w = .ok false w
              unfold Op.equalIn
              simp [run_underlying hu]
            have hb2 := binOp_eq_run (cx := cx) (w := w) hop (by simp) (by simp) (by simp) (by simp) heq
            refine key (.bool b) ?_ (.scal _ rfl)
            have hgd : (eqGuard op t x y (.slice (some ⟨(E id).blk, (E id).base, none⟩) (E id).n c) (.slice none 0 0)).run cx.P w = .ok () w := by
              unfold eqGuard
              rcases hop with rfl | rfl <;> rfl
            simp only [Sem.run_bind, hgd, Result.andThen_ok, hb2, hb]
          · omega
        split at h
        · simp at h; obtain ⟨rfl, rfl⟩ := h; exact main false (.inl rfl) rfl rfl rfl
        · simp at h; obtain ⟨rfl, rfl⟩ := h; exact main true (.inr rfl) rfl rfl rfl
        · cases h
      · cases h
    · cases h
  · cases h
end
end Go.Proofs.YtlflclfhldghbaaGreatDoor.Ls
end
section
namespace Go.Proofs.YtlflclfhldghbaaGreatDoor.Ls
open Go
section
variable {T : TypeId → VS} {cx : Cx T} {E : Emb} {st : St T} {a : Act} {w : World} {o : Oper}
theorem zeroCellsL_len (z : List Value) : ∀ n, (zeroCellsL z n).length = n * z.length
  | 0 => by simp [zeroCellsL]
  | n + 1 => by simp [zeroCellsL, zeroCellsL_len z n, Nat.add_mul]; omega
theorem zeroCellsL_get (z : List Value) : ∀ (n i : Nat), i < n * z.length → (zeroCellsL z n)[i]? = z[i % z.length]?
  | 0, i, h => by simp at h
  | n + 1, i, h => by
    simp only [zeroCellsL]
    have hp : 0 < z.length := by rcases Nat.eq_zero_or_pos z.length with e | e; simp [e] at h; exact e
    by_cases hi : i < z.length
    · rw [List.getElem?_append_left hi, Nat.mod_eq_of_lt hi]
    · have hle : z.length ≤ i := by omega
      have hlt : i - z.length < n * z.length := by rw [Nat.add_mul] at h; omega
      rw [List.getElem?_append_right hle, zeroCellsL_get z n (i - z.length) hlt, ← Nat.mod_eq_sub_mod hle]
theorem zeros_eq (z : Array Value) (n : Nat) (hz : 0 < z.size ∨ n = 0) : ((Array.range (n * z.size)).map fun i => z[i % z.size]!).toList = zeroCellsL z.toList n := by
  apply List.ext_getElem?
  intro i
  by_cases hi : i < n * z.size
  · rw [zeroCellsL_get _ _ _ (by simpa using hi)]
    have hp : 0 < z.size := by rcases Nat.eq_zero_or_pos z.size with e | e; simp [e] at hi; exact e
    have hm : i % z.size < z.size := Nat.mod_lt _ hp
    simp [hi, hm]
  · rw [List.getElem?_eq_none (by simp; omega), List.getElem?_eq_none (by rw [zeroCellsL_len]; simp; omega)]
theorem encAll_replicate (s : VS) (x : s.ty) (zc : List Value) (hz : encAll s [x] = zc) : ∀ n, encAll s (List.replicate n x) = zeroCellsL zc n
  | 0 => rfl
  | n + 1 => by
    have : List.replicate (n + 1) x = [x] ++ List.replicate n x := rfl
    rw [this, encAll_append, hz, encAll_replicate s x zc hz n]; rfl
theorem op_makeSlice (hS : Sim cx.glob E st.heap w) (hV : EnvR E st.heap.length st.env a) {t e : TypeId} {l c : Operand} {ln cn : Int} {i : TypeInfo} {z : List Value} {z0 : (T e).ty} (hu : cx.P.underlying t = some (.slice e)) (hl : st.ev l = .int .i64 ln) (hc : st.ev c = .int .i64 cn)
    (hi : cx.P.info? e = some i) (hz : zeroL cx e = some z) (hpl : (T e).plain = true) (hsz : i.size = (T e).size) (hby : i.bytes ≠ 0) (hd : decAll (T e) z.length z = some [z0]) (h0 : 0 ≤ ln) (h1 : ln ≤ cn) (h2 : cn * i.bytes ≤ maxRoom) (hlt : st.heap.length < GB) (ho : o.op = .makeSlice t l c) :
    OpOK cx E st a w o (.val (.slice (some ⟨st.heap.length, 0, none⟩) 0 0) { st with heap := st.heap ++ [.row true e (List.replicate ln.toNat z0)] }) := by
  have el := (ev_rel hS hV l); rw [hl] at el
  have ec := (ev_rel hS hV c); rw [hc] at ec
  have el := el.scalar_eq rfl
  have ec := ec.scalar_eq rfl
  obtain ⟨i', zv, hi', hzv, hzc, hzl⟩ := zeroL_eq hz
  rw [hi] at hi'; cases hi'
  have henc := decAll_plain _ hpl _ _ _ hd
  have hg := encAll_ground _ hpl [z0]
  rw [henc] at hg
  have hcells : zv.cells.toList = z := by
    have := (const_cells (E := E) (N := 0) hzc)
    rw [← hzl] at this
    exact this.ground_eq hg
  have hzlen : zv.cells.size = (T e).size := by
    have h3 := encAll_len (T e) [z0]
    rw [henc] at h3
    have : zv.cells.toList.length = z.length := by rw [hcells]
    simp at this h3; omega
  have hbi : (1 : Int) ≤ i.bytes := by omega
  have hcn : cn ≤ cn * i.bytes := by
    have : cn * 1 ≤ cn * i.bytes := Int.mul_le_mul_of_nonneg_left hbi (by omega)
    omega
  simp only [maxRoom] at h2
  have hwl : IntKind.i64.wrap ln = ln := by rw [show IntKind.i64.wrap ln = (let m := ln % (2 ^ 64 : Int); if m ≥ 2 ^ 63 then m - 2 ^ 64 else m) by simp [IntKind.wrap, IntKind.bits, IntKind.signed]]; simp only; omega
  have hwc : IntKind.i64.wrap cn = cn := by rw [show IntKind.i64.wrap cn = (let m := cn % (2 ^ 64 : Int); if m ≥ 2 ^ 63 then m - 2 ^ 64 else m) by simp [IntKind.wrap, IntKind.bits, IntKind.signed]]; simp only; omega
  have hb2 : ¬ ((i.bytes : Int) * cn > 281474976710656) := by rw [Int.mul_comm]; omega
  have hrun : (Instr.makeSlice t (a.eval l) (a.eval c)).run cx.P w = .ok (.slice (some ⟨w.heap.size, 0, none⟩) ln.toNat cn.toNat)
      (w.alloc (.cells ((Array.range (cn.toNat * i.size)).map fun j => (if cn.toNat * i.size = 0 then (#[] : Array Value) else zv.cells)[j % (if cn.toNat * i.size = 0 then (#[] : Array Value) else zv.cells).size]!) e)) := by
    rw [el, ec]
    have c1 : ¬ (cn < 0) := by omega
    have c2 : ¬ (ln < 0) := by omega
    have c3 : ¬ (ln > cn) := by omega
    have c1' : 0 ≤ cn := by omega
    by_cases hz0 : cn.toNat * i.size = 0
    · simp [Instr.makeSlice, run_underlying hu, asInt, asIntOf, typeInfo, sizeOf, hi, hwl, hwc, c1, c2, c3, hb2, h0, h1, c1', newRow, hz0]
    · simp only [if_neg hz0]
      have hzr := run_zeroValue (cx := cx) hi hzv w
      simp [Instr.makeSlice, run_underlying hu, asInt, asIntOf, typeInfo, sizeOf, hi, hwl, hwc, c1, c2, c3, hb2, h0, h1, c1', newRow, hz0, hzr]
  refine ok_value (s := Instr.makeSlice t (a.eval l) (a.eval c)) (by simp [execOp, ho]) hrun ?_
    (new_row (cx := cx) (w0 := w) hS hlt (List.replicate ln.toNat z0) hpl cn.toNat e (fun j u hj => ?_) (by simp; omega) (by simp [hsz]) rfl rfl rfl rfl)
  · simp only [List.length_append, List.length_cons, List.length_nil]
    exact new_whole (.inl ⟨cn.toNat, by simp; omega, Nat.le_refl _, by simp⟩)
  · rw [encAll_replicate _ _ _ henc] at hj
    have hjl := (List.getElem?_eq_some_iff.1 hj).1
    rw [zeroCellsL_len] at hjl
    have hzl2 : z.length = (T e).size := by rw [← hcells]; simpa using hzlen
    have hpos : 0 < z.length := by rcases Nat.eq_zero_or_pos z.length with q | q; simp [q] at hjl; exact q
    have hcpos : cn.toNat * i.size ≠ 0 := by
      rw [hsz, ← hzl2]
      have : ln.toNat * z.length ≤ cn.toNat * z.length := Nat.mul_le_mul_right _ (by omega)
      omega
    simp only [if_neg hcpos]
    have hz2 := zeros_eq zv.cells cn.toNat (.inl (by rw [hzlen, ← hzl2]; exact hpos))
    rw [hzlen, ← hsz] at hz2
    have : ((Array.range (cn.toNat * i.size)).map fun i => zv.cells[i % zv.cells.size]!).toList[j]? = some u := by
      rw [hzlen, ← hsz, hz2, hcells]
      have hjl2 : j < cn.toNat * z.length := Nat.lt_of_lt_of_le hjl (Nat.mul_le_mul_right _ (by omega))
      rw [zeroCellsL_get _ _ _ hjl2, ← zeroCellsL_get _ _ _ hjl]; exact hj
    rw [Array.getElem?_toList] at this
    exact this
theorem op_buildSlice (hS : Sim cx.glob E st.heap w) (hV : EnvR E st.heap.length st.env a) {t e : TypeId} {len s : Nat} {parts : Array (Nat × Operand)} {z cs : List Value} (hu : cx.P.underlying t = some (.slice e)) (hs : sizeL cx e = some s) (hz : zeroL cx e = some z) (hzl : z.length = s)
    (hlen : len ≠ 0) (hls : len * s ≠ 0) (hbig : len * s ≤ 16777216) (hf : fillL (fun i => some (i * s, s)) (zeroCellsL z len) (evs st parts.toList) = some cs) (hlt : st.heap.length < GB) (ho : o.op = .buildSlice t len parts) :
    ((T e).plain = true → s = (T e).size → ∀ xs, decAll (T e) cs.length cs = some xs → OpOK cx E st a w o (.val (.slice (some ⟨st.heap.length, 0, none⟩) 0 0) { st with heap := st.heap ++ [.row true e xs] })) ∧
    OpOK cx E st a w o (.val (.slice (some ⟨st.heap.length, 0, none⟩) len len) { st with heap := st.heap ++ [.flat cs] }) := by
  obtain ⟨i, zv, hi, hzv, hzc, hze⟩ := zeroL_eq hz
  have hsi : i.size = s := by
    obtain ⟨i', hi', h⟩ := sizeL_eq hs
    rw [hi] at hi'; cases hi'; exact h
  have hcell := const_cells (E := E) (N := st.heap.length) hzc
  rw [← hze] at hcell
  have hzsz : zv.cells.size = s := by have := hcell.1; simp at this; omega
  have hsp : 0 < s := by rcases Nat.eq_zero_or_pos s with q | q; simp [q] at hls; exact q
  have hr := evs_rel hS hV parts.toList
  have hzz : PW E st.heap.length (zeroCellsL z len) ((Array.range (len * s)).map fun j => zv.cells[j % zv.cells.size]!).toList := by
    have h1 := zeros_eq zv.cells len (.inl (by omega))
    rw [hzsz] at h1
    rw [hzsz, h1]
    clear hf h1 ho
    induction len with
    | zero => exact absurd rfl hlen
    | succ n ih =>
      rcases Nat.eq_zero_or_pos n with q | q
      · subst q; simpa [zeroCellsL] using hcell
      · simp only [zeroCellsL]
        exact hcell.append (ih (by omega) (by have := Nat.mul_pos q hsp; omega) (by rw [Nat.add_mul] at hbig; omega))
  obtain ⟨c', h1, h2⟩ := fill_sound (E := E) (N := st.heap.length) _ _ _ _ (parts.toList.map fun (i, x) => (i, a.eval x)) hf hzz hr.1 hr.2
  have hlc : cs.length = len * s := by
    have h3 : ∀ (ps : List (Nat × Value)) (a b : List Value), fillL (fun i => some (i * s, s)) a ps = some b → b.length = a.length := by
      intro ps
      induction ps with
      | nil => intro a b h; simp [fillL] at h; rw [h]
      | cons p ps ih =>
        intro a b h
        obtain ⟨k, u⟩ := p
        simp only [fillL] at h
        split at h
        · rename_i q1 q2 q3
          rw [ih _ _ h, splice_len]
          rw [Nat.eq_of_beq_eq_true q1]; exact Nat.le_of_ble_eq_true q2
        · cases h
    rw [h3 _ _ _ hf, zeroCellsL_len, hzl]
  have he : execOp a.eval o = (do pure (.value (← Instr.buildSlice t len (parts.map fun (i, x) => (i, a.eval x))))) := by simp [execOp, ho]
  have hrun : (Instr.buildSlice t len (parts.map fun (i, x) => (i, a.eval x))).run cx.P w = .ok (.slice (some ⟨w.heap.size, 0, none⟩) len len) (w.alloc (.cells c' e)) := by
    have hzr := run_zeroValue (cx := cx) hi hzv w
    have hnb : ¬ (len * s > 2 ^ 24) := by omega
    have h1' : Instr.fill (fun i => some (i * s, s)) (Array.map (fun j => zv.cells[j % s]!) (Array.range (len * s))) (parts.toList.map fun (i, x) => (i, a.eval x)) = some c' := by rw [← hzsz] at *; exact h1
    have h1'' : Instr.fill (fun i => some (i * s, s)) (Array.map (fun j => zv.cells[j % s]!) (Array.range (len * s))) (parts.map fun (i, x) => (i, a.eval x)).toList = some c' := by simpa using h1'
    have hls' : ¬ (len = 0 ∨ s = 0) := by rintro (q | q) <;> simp [q] at hls
    simp [Instr.buildSlice, run_underlying hu, run_sizeOf hs, hnb, hls', hzr, hzsz, newRow]
    rw [if_neg hls]
    have h3 : Instr.fill (fun i => some (i * s, s)) (Array.map (fun j => zv.cells[j % s]!) (Array.range (len * s))) (List.map (fun x => (x.fst, a.eval x.snd)) parts.toList) = some c' := h1'
    rw [h3]
    rfl
  generalize Instr.buildSlice t len (parts.map fun (i, x) => (i, a.eval x)) = S at he hrun
  refine ⟨fun hpl hss xs hd => ?_, ?_⟩
  · have henc := decAll_plain _ hpl _ _ _ hd
    have hg := encAll_ground _ hpl xs
    rw [henc] at hg
    have hceq := h2.ground_eq hg
    have hxl := encAll_len (T e) xs
    rw [henc, hlc, ← hss] at hxl
    have hxl : len = xs.length := Nat.eq_of_mul_eq_mul_right hsp hxl
    refine ok_value he hrun ?_
      (new_row (cx := cx) (c := c') (w0 := w) hS hlt xs hpl len e (fun j u hj => ?_) (by omega) ?_ rfl rfl rfl rfl)
    · simp only [List.length_append, List.length_cons, List.length_nil]
      exact new_whole (.inl ⟨len, by simp; omega, Nat.le_refl _, by simp [hxl]⟩)
    · rw [henc, ← hceq] at hj; simpa using hj
    · have : c'.toList.length = len * s := by rw [hceq]; exact hlc
      rw [← hss]; simp at this; omega
  · refine ok_value he hrun ?_ (new_flat (cx := cx) hS hlt h2 e)
    simp only [List.length_append, List.length_cons, List.length_nil]
    have := VR.fsl (E := updE E st.heap.length ⟨w.heap.size, 0, 0, 0, 0, true⟩) (N := st.heap.length + 1) st.heap.length 0 len len (.inl (Nat.lt_succ_self _)) hlen (Nat.le_refl _)
    have e : locA (updE E st.heap.length ⟨w.heap.size, 0, 0, 0, 0, true⟩) ⟨st.heap.length, 0, none⟩ = ⟨w.heap.size, 0, none⟩ := by simp [locA, updE_self]
    rw [e] at this
    exact this
theorem op_buildSlice0 (hS : Sim cx.glob E st.heap w) {t e : TypeId} {len s : Nat} {parts : Array (Nat × Operand)} (hu : cx.P.underlying t = some (.slice e)) (hs : sizeL cx e = some s) (hpl : (T e).plain = true)
    (hlen : len = 0) (hp : parts = #[]) (hlt : st.heap.length < GB) (ho : o.op = .buildSlice t len parts) :
    OpOK cx E st a w o (.val (.slice (some ⟨st.heap.length, 0, none⟩) 0 0) { st with heap := st.heap ++ [.row true e []] }) := by
  subst hlen; subst hp
  have he : execOp a.eval o = (do pure (.value (← Instr.buildSlice t 0 #[]))) := by simp [execOp, ho]
  have hrun : (Instr.buildSlice t 0 #[]).run cx.P w = .ok (.slice (some ⟨w.heap.size, 0, none⟩) 0 0) (w.alloc (.cells #[] e)) := by
    have h0 : Array.range 0 = #[] := by simp [Array.range]
    simp [Instr.buildSlice, run_underlying hu, run_sizeOf hs, Instr.fill, newRow, h0]
  refine ok_value he hrun ?_ (new_row (cx := cx) (c := #[]) (w0 := w) hS hlt [] hpl 0 e (fun j u hj => ?_) (by simp) (by simp) rfl rfl rfl rfl)
  · simp only [List.length_append, List.length_cons, List.length_nil]
    exact new_whole (.inl ⟨0, by simp, Nat.le_refl _, by simp⟩)
  · simp [encAll] at hj
theorem evl_ground (hS : Sim cx.glob E st.heap w) (hV : EnvR E st.heap.length st.env a) (l : List Operand) (h : (evl st l).all ground1 = true) : l.map a.eval = evl st l :=
  (evl_rel hS hV l).ground_eq (fun v hv => by simpa using List.all_eq_true.1 h v hv)
theorem op_minmax (hS : Sim cx.glob E st.heap w) (hV : EnvR E st.heap.length st.env a) {c : Call} {v : Value} (h : (evl st c.args.toList).all ground1 = true) :
    (c.callee = .builtin .min → pureV cx.P (Builtin.min_ c.argTypes o.type ⟨evl st c.args.toList⟩) = some v → o.op = .call c → OpOK cx E st a w o (.val v st)) ∧
    (c.callee = .builtin .max → pureV cx.P (Builtin.max_ c.argTypes o.type ⟨evl st c.args.toList⟩) = some v → o.op = .call c → OpOK cx E st a w o (.val v st)) := by
  have he := evl_ground hS hV _ h
  have hargs : c.args.map a.eval = ⟨evl st c.args.toList⟩ := by
    apply Array.ext'
    simpa using he
  constructor
  · intro hc hr ho
    exact ok_value (s := Builtin.min_ c.argTypes o.type ⟨evl st c.args.toList⟩) (by simp [execOp, ho, resolve, hc, invoke, builtin, hargs]) (pureV_run hr w (E := E) (N := 0)).1 (pureV_run hr w).2 (Stp.refl hS)
  · intro hc hr ho
    exact ok_value (s := Builtin.max_ c.argTypes o.type ⟨evl st c.args.toList⟩) (by simp [execOp, ho, resolve, hc, invoke, builtin, hargs]) (pureV_run hr w (E := E) (N := 0)).1 (pureV_run hr w).2 (Stp.refl hS)
def CallR (glob : Nat → Option (Ob T)) (E : Emb) (H : List (Ob T)) (w : World) : CallOut T → Ending → World → Prop
  | .ret v H' D _, .returned v', w' => ∃ E', VR E' H'.length v v' ∧ Stp glob E ⟨[], H, [], [], 0, true⟩ w E' ⟨[], H', D, [], 0, true⟩ w'
  | .pan v H' D _, .panicked chain, w' => ∃ v' E', chain = [{ v := v', recovered := false }] ∧ VR E' H'.length v v' ∧ Stp glob E ⟨[], H, [], [], 0, true⟩ w E' ⟨[], H', D, [], 0, true⟩ w'
  | _, _, _ => False
def CallOut.ok : CallOut T → Bool
  | .ret _ _ _ ok => ok
  | .pan _ _ _ ok => ok
def CallOut.heap : CallOut T → List (Ob T)
  | .ret _ H _ _ => H
  | .pan _ H _ _ => H
def CallOK (cx : Cx T) : Prop := ∀ (f : FuncId) (args : List Value) (H : List (Ob T)) (out : CallOut T), (cx.call f args H).pick = some out → out.ok = true → out.heap.length ≤ GB →
  ∀ (E : Emb) (w : World) (args' : List Value), PW E H.length args args' → Sim cx.glob E H w →
    ((∃ fn, cx.P.funcs[f]? = some fn ∧ (fn.name == "runtime.NumGoroutine") = false ∧ fn.body.isNone = false) ∧ Calls cx.P f ⟨args'⟩ w (CallR cx.glob E H w out)) ∨
    ∃ v', (callFunc f ⟨args'⟩).run cx.P w = .ok (.value v') w ∧ CallR cx.glob E H w out (.returned v') w
structure Same (st st' : St T) : Prop where
  env : st'.env = st.env
  known : st'.known = st.known
theorem lowN_mem {m id : Nat} : ∀ (l : List Nat), id ∈ lowN m l ↔ id ∈ l ∧ id < m
  | [] => by simp [lowN]
  | i :: r => by
    have ih := lowN_mem (m := m) (id := id) r
    simp only [lowN]
    cases hb : Nat.blt i m with
    | true =>
      have hlt := blt_lt hb
      simp only [List.mem_cons, ih]
      constructor
      · rintro (rfl | ⟨h1, h2⟩)
        · exact ⟨.inl rfl, hlt⟩
        · exact ⟨.inr h1, h2⟩
      · rintro ⟨rfl | h1, h2⟩
        · exact .inl rfl
        · exact .inr ⟨h1, h2⟩
    | false =>
      have hge : ¬ i < m := fun h => by
        have : Nat.blt i m = true := by simp only [Nat.blt]; exact Nat.ble_eq_true_of_le h
        rw [this] at hb; cases hb
      simp only [List.mem_cons, ih]
      constructor
      · rintro ⟨h1, h2⟩; exact ⟨.inr h1, h2⟩
      · rintro ⟨rfl | h1, h2⟩
        · exact absurd h2 hge
        · exact ⟨h1, h2⟩
theorem Stp.low {glob : Nat → Option (Ob T)} {E E' : Emb} {H H' : List (Ob T)} {D : List Nat} {w w' : World} (h : Stp glob E ⟨[], H, [], [], 0, true⟩ w E' ⟨[], H', D, [], 0, true⟩ w') : Stp glob E ⟨[], H, [], [], 0, true⟩ w E' ⟨[], H', lowN H.length D, [], 0, true⟩ w' :=
  ⟨h.sim, h.len, h.agr, h.os, h.tape, h.out, h.size, fun b hb hD => h.frame b hb (fun id hid hlt => hD id ((lowN_mem D).2 ⟨hid, hlt⟩) hlt),
    fun id h1 h2 h3 => (h.fresh id h1 h2 h3).imp (fun h => h) (fun ⟨d, g1, g2, g3⟩ => ⟨d, (lowN_mem D).2 ⟨g1, g2⟩, g2, g3⟩),
    fun id hid hnd => h.kept id hid (fun hd => hnd ((lowN_mem D).2 ⟨hd, hid⟩)), fun id hid => absurd hid (by simp), h.gen, h.dead⟩
theorem op_call (hS : Sim cx.glob E st.heap w) (hV : EnvR E st.heap.length st.env a) (hC : CallOK cx) {c : Call} {x : Operand} {f : FuncId} {fs cs : Array Value} {out : OpOut T} (hc : c.callee = .value x) (hx : st.ev x = .func (.func f) fs cs)
    (h : (callL cx st f (fs.toList ++ (evl st c.args.toList ++ cs.toList))).pick = some out) (hok : out.state.ok = true) (hle : out.state.heap.length ≤ GB) (ho : o.op = .call c) : st.ok = true ∧ OpOK cx E st a w o out := by
  have hf := ev_rel hS hV x
  rw [hx] at hf
  obtain ⟨fs', cs', he, hfs, hcs⟩ : ∃ fs' cs', a.eval x = .func (.func f) fs' cs' ∧ PW E st.heap.length fs.toList fs'.toList ∧ PW E st.heap.length cs.toList cs'.toList := by
    generalize a.eval x = y at hf
    cases hf with
    | scal _ hs => simp [scalar] at hs
    | func _ _ fs' _ cs' h1 h2 h3 h4 => exact ⟨fs', cs', rfl, ⟨by simpa using h1, fun i v v' hv hv' => h2 i v v' (by simpa using hv) (by simpa using hv')⟩, ⟨by simpa using h3, fun i v v' hv hv' => h4 i v v' (by simpa using hv) (by simpa using hv')⟩⟩
  have hargs := hfs.append ((evl_rel hS hV c.args.toList).append hcs)
  have pick_bind : ∀ {α β : Type} (t : Tr α) (g : α → Tr β) (r : β), (t.bind g).pick = some r → ∃ q, t.pick = some q ∧ (g q).pick = some r := by
    intro α β t g r
    induction t with
    | fail => intro h; simp [Tr.bind, Tr.pick] at h
    | leaf q => intro h; exact ⟨q, rfl, h⟩
    | node b t e iht ihe => intro h; cases b <;> simp only [Tr.bind, Tr.pick] at h ⊢; exact ihe h; exact iht h
  obtain ⟨q, hq, hr⟩ := pick_bind _ _ _ h
  have hexec : (execOp a.eval o).run cx.P w = (callFunc f (fs' ++ c.args.map a.eval ++ cs')).run cx.P w := by
    simp [execOp, ho, resolve, hc, he, Deferred.ofValue, invoke]
  have harr : (fs' ++ c.args.map a.eval ++ cs') = ⟨fs'.toList ++ (c.args.toList.map a.eval ++ cs'.toList)⟩ := by
    apply Array.ext'; simp
  have enter : ∀ (fn : Func), cx.P.funcs[f]? = some fn → (fn.name == "runtime.NumGoroutine") = false → fn.body.isNone = false → (execOp a.eval o).run cx.P w = .ok (.enter f ⟨fs'.toList ++ (c.args.toList.map a.eval ++ cs'.toList)⟩) w := by
    intro fn h1 h2 h3
    rw [hexec, harr]
    simp only [callFunc, Sem.run_bind, run_program, Result.andThen_ok, h1, h2, h3]
    rfl
  cases q with
  | ret v H D ok =>
    simp [Tr.pick] at hr; subst hr
    simp [OpOut.state] at hok hle
    rcases hC f _ _ _ hq hok.2 hle E w _ hargs hS with ⟨⟨fn, h1, h2, h3⟩, hcall⟩ | ⟨v', hrun, E', hv, hs⟩
    case inr =>
      refine ⟨hok.1, fun next Q hn => ?_⟩
      unfold Oper.wp
      rw [hexec, harr, hrun]
      simp only [Oper.upon]
      exact hn v' w E' hv (hs.low.of rfl rfl (fun id hid => by simp [hid]) (fun id hid => by simp [hid]) rfl)
    refine ⟨hok.1, fun next Q hn => ?_⟩
    unfold Oper.wp
    rw [enter fn h1 h2 h3]
    simp only [Oper.upon]
    refine hcall.mono fun e w' hR => ?_
    cases e with
    | returned v' =>
      obtain ⟨E', hv, hs⟩ := hR
      exact hn v' w' E' hv (hs.low.of rfl rfl (fun id hid => by simp [hid]) (fun id hid => by simp [hid]) rfl)
    | panicked chain => exact hR.elim
    | outgrown => exact hR.elim
  | pan v H D ok =>
    simp [Tr.pick] at hr; subst hr
    simp [OpOut.state] at hok hle
    rcases hC f _ _ _ hq hok.2 hle E w _ hargs hS with ⟨⟨fn, h1, h2, h3⟩, hcall⟩ | ⟨v', hrun, hR⟩
    case inr => exact hR.elim
    refine ⟨hok.1, fun next Q hn => ?_⟩
    unfold Oper.wp
    rw [enter fn h1 h2 h3]
    simp only [Oper.upon]
    refine hcall.mono fun e w' hR => ?_
    cases e with
    | returned v' => exact hR.elim
    | panicked chain =>
      obtain ⟨v', E', rfl, hv, hs⟩ := hR
      exact hn v' w' E' hv (hs.low.of rfl rfl (fun id hid => by simp [hid]) (fun id hid => by simp [hid]) rfl)
    | outgrown => exact hR.elim
end
end Go.Proofs.YtlflclfhldghbaaGreatDoor.Ls
end
section
namespace Go.Proofs.YtlflclfhldghbaaGreatDoor.Ls
open Go
section
variable {T : TypeId → VS} {cx : Cx T} {E : Emb} {st : St T} {a : Act} {w : World} {o : Oper}
theorem pick_leaf {α : Type} {x y : α} (h : (Tr.leaf x).pick = some y) : x = y := by simpa [Tr.pick] using h
theorem pick_fail {α : Type} {y : α} (h : (Tr.fail : Tr α).pick = some y) : False := by simp [Tr.pick] at h
theorem pick_bind {α β : Type} : ∀ (t : Tr α) (g : α → Tr β) (r : β), (t.bind g).pick = some r → ∃ q, t.pick = some q ∧ (g q).pick = some r := by
  intro t g r
  induction t with
  | fail => intro h; simp [Tr.bind, Tr.pick] at h
  | leaf q => intro h; exact ⟨q, rfl, h⟩
  | node b t e iht ihe => intro h; cases b <;> simp only [Tr.bind, Tr.pick] at h ⊢; exact ihe h; exact iht h
theorem outV_pick {r : Option (Value × Option Bool)} {out : OpOut T} (h : (outV st r).pick = some out) : ∃ v g, r = some (v, g) ∧ out = .val v (st.need g) := by
  unfold outV at h
  split at h
  · rename_i v g; exact ⟨v, g, rfl, (pick_leaf h).symm⟩
  · exact (pick_fail h).elim
theorem Same.refl (st : St T) : Same st st := ⟨rfl, rfl⟩
theorem Same.need (st : St T) (g : Option Bool) : Same st (st.need g) := by cases g <;> exact ⟨rfl, rfl⟩
theorem evl_one {l : List Operand} {x : Value} (h : evl st l = [x]) : ∃ X, l = [X] ∧ st.ev X = x := by
  cases l with
  | nil => simp [evl] at h
  | cons X r => cases r with
    | nil => simp [evl] at h; exact ⟨X, rfl, h⟩
    | cons Y r => simp [evl] at h
theorem evl_two {l : List Operand} {x y : Value} (h : evl st l = [x, y]) : ∃ X Y, l = [X, Y] ∧ st.ev X = x ∧ st.ev Y = y := by
  cases l with
  | nil => simp [evl] at h
  | cons X r => cases r with
    | nil => simp [evl] at h
    | cons Y r => cases r with
      | nil => simp [evl] at h; exact ⟨X, Y, rfl, h⟩
      | cons Z r => simp [evl] at h
set_option maxHeartbeats 4000000 in
theorem opL_sound (hS : Sim cx.glob E st.heap w) (hV : EnvR E st.heap.length st.env a) (hC : CallOK cx) {out : OpOut T} (hp : (opL cx st o).pick = some out) (hok : out.state.ok = true) (hle : out.state.heap.length ≤ GB) :
    st.ok = true ∧ Same st out.state ∧ OpOK cx E st a w o out := by
  unfold opL at hp
  cases hop : o.op with
  | move x => simp only [hop] at hp; have := pick_leaf hp; subst this; exact ⟨hok, .refl _, op_move hS hV x hop⟩
  | assign x => simp only [hop] at hp; have := pick_leaf hp; subst this; exact ⟨hok, .refl _, op_assign hS hV x hop⟩
  | pick c x y =>
    simp only [hop] at hp
    split at hp
    · rename_i p hc
      obtain ⟨h1, h2⟩ := op_pick hS hV c x y p hc hop
      split at hp
      · split at hp
        · have := pick_leaf hp; subst this; exact ⟨hok, .refl _, h1⟩
        · have := pick_leaf hp; subst this; exact ⟨hok, .refl _, h1⟩
      · have := pick_leaf hp; subst this; exact ⟨hok, .refl _, h2⟩
    · exact (pick_fail hp).elim
  | alloc e =>
    simp only [hop] at hp
    split at hp
    · rename_i z hz
      split at hp
      · rename_i ob hm
        have := pick_leaf hp; subst this
        simp [OpOut.state] at hle
        exact ⟨hok, ⟨rfl, rfl⟩, op_alloc hS (by omega) hz hm hop⟩
      · exact (pick_fail hp).elim
    · exact (pick_fail hp).elim
  | box e x =>
    simp only [hop] at hp
    split at hp
    · rename_i n hn hu
      split at hp
      · split at hp
        · rename_i ob hm
          have := pick_leaf hp; subst this
          simp [OpOut.state] at hle
          exact ⟨hok, ⟨rfl, rfl⟩, op_box hS hV (by omega) hu hm hop⟩
        · exact (pick_fail hp).elim
      · exact (pick_fail hp).elim
    · exact (pick_fail hp).elim
  | build t parts =>
    simp only [hop] at hp
    split at hp
    · rename_i z hz
      split at hp
      · rename_i fs hu
        split at hp
        · rename_i ps hps
          split at hp
          · rename_i cs hf
            have := pick_leaf hp; subst this
            exact ⟨hok, .refl _, op_build_struct hS hV hz hu hps hf hop⟩
          · exact (pick_fail hp).elim
        · exact (pick_fail hp).elim
      · rename_i n e hu
        split at hp
        · rename_i s hs
          split at hp
          · rename_i cs hf
            have := pick_leaf hp; subst this
            exact ⟨hok, .refl _, op_build_array hS hV hz hu hs hf hop⟩
          · exact (pick_fail hp).elim
        · exact (pick_fail hp).elim
      · exact (pick_fail hp).elim
    · exact (pick_fail hp).elim
  | buildSlice t len parts =>
    simp only [hop] at hp
    split at hp
    · rename_i h0 hnil
      split at hp
      · rename_i e hu
        split at hp
        · rename_i s hs hpl
          have := pick_leaf hp; subst this
          simp [OpOut.state] at hle
          exact ⟨hok, ⟨rfl, rfl⟩, op_buildSlice0 hS hu hs hpl (Nat.eq_of_beq_eq_true h0) (Array.ext' hnil) (by omega) hop⟩
        · exact (pick_fail hp).elim
      · exact (pick_fail hp).elim
    · split at hp
      · rename_i e hu
        split at hp
        · rename_i s z hs hz hcond
          split at hp
          · exact (pick_fail hp).elim
          · rename_i hzl
            have hzl := Nat.eq_of_beq_eq_true hzl
            simp only [Bool.or_eq_false_iff] at hcond
            obtain ⟨hc1, hc2, hc3⟩ := hcond
            have hs0 : s0 cx e = s := by simp [s0, hs]
            rw [hs0] at hc2 hc3
            have hc1 := Nat.ne_of_beq_eq_false hc1
            have hc2 := Nat.ne_of_beq_eq_false hc2
            have hc3 : len * s ≤ 16777216 := by
              rcases Nat.lt_or_ge 16777216 (len * s) with h | h
              · have : Nat.blt 16777216 (len * s) = true := by simp only [Nat.blt]; exact Nat.ble_eq_true_of_le h
                rw [this] at hc3; cases hc3
              · exact h
            split at hp
            · rename_i cs hf
              split at hp
              · rename_i hpl
                split at hp
                · rename_i xs hd
                  split at hp
                  · rename_i hsz
                    have := pick_leaf hp; subst this
                    simp [OpOut.state] at hle
                    exact ⟨hok, ⟨rfl, rfl⟩, (op_buildSlice hS hV hu hs hz hzl hc1 hc2 hc3 hf (by omega) hop).1 hpl (Nat.eq_of_beq_eq_true hsz) xs hd⟩
                  · exact (pick_fail hp).elim
                · exact (pick_fail hp).elim
              · have := pick_leaf hp; subst this
                simp [OpOut.state] at hle
                exact ⟨hok, ⟨rfl, rfl⟩, (op_buildSlice hS hV hu hs hz hzl hc1 hc2 hc3 hf (by omega) hop).2⟩
            · exact (pick_fail hp).elim
        · exact (pick_fail hp).elim
      · exact (pick_fail hp).elim
  | load t x =>
    simp only [hop] at hp
    obtain ⟨v, g, hl, rfl⟩ := outV_pick hp
    obtain ⟨h1, h2⟩ := need_ok hok
    exact ⟨h1, .need _ _, op_load hS hV hl h2 hop⟩
  | store t p x =>
    simp only [hop] at hp
    split at hp
    · rename_i st' hst
      have := pick_leaf hp; subst this
      obtain ⟨h1, h2⟩ := op_store hS hV hst hok hop
      refine ⟨h1, ?_, h2⟩
      unfold storeL at hst
      repeat' split at hst
      all_goals first | (cases hst; done) | (simp at hst; subst hst; exact ⟨by simp [OpOut.state, touch, need_env], by simp [OpOut.state, touch, St.need]⟩)
    · exact (pick_fail hp).elim
  | nilCheck x =>
    simp only [hop] at hp
    obtain ⟨h1, h2⟩ := op_nilCheck hS hV hop
    split at hp
    · rename_i ad hx; have := pick_leaf hp; subst this; exact ⟨hok, .refl _, h1 ad hx⟩
    · rename_i f fs cs hx; have := pick_leaf hp; subst this; exact ⟨hok, .refl _, h2 f fs cs hx⟩
    · exact (pick_fail hp).elim
  | binOp op t x y yt =>
    simp only [hop] at hp
    split at hp
    · rename_i r hr
      obtain ⟨v, g, hl, rfl⟩ := outV_pick hp
      obtain ⟨h1, h2⟩ := need_ok hok
      cases hl
      exact ⟨h1, .need _ _, op_nilCmp hS hV hr h2 hop⟩
    · obtain ⟨v, g, hl, rfl⟩ := outV_pick hp
      obtain ⟨h1, h2⟩ := need_ok hok
      exact ⟨h1, .need _ _, op_binOp hS hV hl h2 hop⟩
  | unOp op t x =>
    simp only [hop] at hp
    split at hp
    · rename_i v hg hr; have := pick_leaf hp; subst this; exact ⟨hok, .refl _, op_unOp hS hV hg hr hop⟩
    · exact (pick_fail hp).elim
  | convert s d x =>
    simp only [hop] at hp
    split at hp
    · rename_i v hg hr; have := pick_leaf hp; subst this; exact ⟨hok, .refl _, op_convert hS hV hg hr hop⟩
    · exact (pick_fail hp).elim
  | makeInterface t x =>
    simp only [hop] at hp
    split at hp
    · exact (pick_fail hp).elim
    · rename_i d hd hu
      have := pick_leaf hp; subst this
      exact ⟨hok, .refl _, op_makeInterface hS hV hu (fun ms e => hd ms e) hop⟩
    · exact (pick_fail hp).elim
  | makeFunc fn fs cs => simp only [hop] at hp; have := pick_leaf hp; subst this; exact ⟨hok, .refl _, op_makeFunc hS hV hop⟩
  | makeSlice t l c =>
    simp only [hop] at hp
    split at hp
    · rename_i e hu
      split at hp
      · rename_i ln cn i z hl hc hi hz
        split at hp
        · rename_i z0 hpl hsz hby hd
          have := pick_leaf hp; subst this
          obtain ⟨h1, h2⟩ := need_okb (st := st) hok
          simp at h2
          simp [OpOut.state] at hle
          refine ⟨h1, ⟨rfl, rfl⟩, ?_⟩
          have := op_makeSlice hS hV hu hl hc hi hz hpl (Nat.eq_of_beq_eq_true hsz) (Nat.ne_of_beq_eq_false hby) hd h2.1 h2.2.1 h2.2.2 (by omega) hop
          intro next Q hn
          exact this next Q (fun v' w' E' hv hs => hn v' w' E' hv (hs.of rfl rfl (fun _ h => h) (fun _ h => h) rfl))
        · exact (pick_fail hp).elim
      · exact (pick_fail hp).elim
    · exact (pick_fail hp).elim
  | slice t x lo hi mx =>
    simp only [hop] at hp
    split at hp
    · rename_i v st' hsl
      have := pick_leaf hp; subst this
      obtain ⟨h1, h2⟩ := op_slice hS hV hsl hok hle hop
      refine ⟨h1, ?_, h2⟩
      unfold sliceL at hsl
      repeat' split at hsl
      all_goals first | (cases hsl; done) | (simp at hsl; obtain ⟨_, rfl⟩ := hsl; exact ⟨by simp [OpOut.state, need_env], by simp [OpOut.state, St.need]⟩)
    · exact (pick_fail hp).elim
  | fieldAddr s x k =>
    simp only [hop] at hp
    split at hp
    · rename_i fs hf
      split at hp
      · rename_i f hk
        split at hp
        · exact (pick_fail hp).elim
        · rename_i n hn
          obtain ⟨h1, h2⟩ := op_fieldAddr hS hV hf hk hn hop
          split at hp
          · rename_i id off hx; have := pick_leaf hp; subst this; exact ⟨hok, .refl _, h1 id off hx⟩
          · rename_i id off j hx; have := pick_leaf hp; subst this; exact ⟨hok, .refl _, h2 id off j hx⟩
          · exact (pick_fail hp).elim
        · exact (pick_fail hp).elim
      · exact (pick_fail hp).elim
    · exact (pick_fail hp).elim
  | field t x k =>
    simp only [hop] at hp
    split at hp
    · rename_i fs hf
      split at hp
      · rename_i f cs hk hx
        split at hp
        · rename_i v hv; have := pick_leaf hp; subst this; exact ⟨hok, .refl _, op_field hS hV hf hk hx hv hop⟩
        · exact (pick_fail hp).elim
      · exact (pick_fail hp).elim
    · exact (pick_fail hp).elim
  | indexAddr t x i =>
    simp only [hop] at hp
    obtain ⟨v, g, hl, rfl⟩ := outV_pick hp
    obtain ⟨h1, h2⟩ := need_ok hok
    exact ⟨h1, .need _ _, op_indexAddr hS hV hl h2 hop⟩
  | index t x i =>
    simp only [hop] at hp
    split at hp
    · rename_i s k n hu hx hi
      obtain ⟨v, g, hl, rfl⟩ := outV_pick hp
      simp at hl; obtain ⟨rfl, rfl⟩ := hl
      obtain ⟨h1, h2⟩ := need_okb hok
      obtain ⟨h3, h4⟩ := and_dec' h2
      refine ⟨h1, ⟨rfl, rfl⟩, ?_⟩
      have := op_index_string hS hV hu hx hi h3 h4 hop
      intro next Q hn
      exact this next Q (fun v' w' E' hv hs => hn v' w' E' (by rw [need_heap]; exact hv) (hs.of rfl (need_heap _ _) (fun _ h => by rw [need_dirty]; exact h) (fun _ h => by rw [need_dirty]; exact h) (need_gen _ _)))
    · rename_i m e cs k n hu hx hi
      split at hp
      · rename_i s hs hd
        obtain ⟨h3, h4⟩ := and_dec' hd
        split at hp
        · rename_i v hv; have := pick_leaf hp; subst this; exact ⟨hok, .refl _, op_index_array hS hV hu hx hi h3 h4 hs hv hop⟩
        · exact (pick_fail hp).elim
      · exact (pick_fail hp).elim
    · exact (pick_fail hp).elim
  | extract x i =>
    simp only [hop] at hp
    split at hp
    · rename_i vs hx
      split at hp
      · rename_i v hv; have := pick_leaf hp; subst this; exact ⟨hok, .refl _, op_extract hS hV hx hv hop⟩
      · exact (pick_fail hp).elim
    · exact (pick_fail hp).elim
  | typeAssert x xt as_ ok =>
    simp only [hop] at hp
    split at hp
    · exact (pick_fail hp).elim
    · rename_i d t v hd hu hx
      obtain ⟨h1, h2⟩ := op_typeAssert hS hV hu (fun ms e => hd ms e) hx hop
      split at hp
      · rename_i he
        have := pick_leaf hp; subst this
        exact ⟨hok, .refl _, h1 (of_decide_eq_true he)⟩
      · rename_i he
        split at hp
        · rename_i z hz
          have := pick_leaf hp; subst this
          exact ⟨hok, .refl _, h2 (of_decide_eq_false he) rfl z hz⟩
        · exact (pick_fail hp).elim
    · exact (pick_fail hp).elim
  | panic x =>
    simp only [hop] at hp
    split at hp
    · rename_i t v hx; have := pick_leaf hp; subst this; exact ⟨hok, .refl _, op_panic hS hV hx hop⟩
    · exact (pick_fail hp).elim
  | call c =>
    simp only [hop] at hp
    split at hp
    · rename_i f hc
      split at hp
      · rename_i g fs cs hx
        obtain ⟨h1, h2⟩ := op_call hS hV hC hc hx hp hok hle hop
        refine ⟨h1, ?_, h2⟩
        obtain ⟨q, _, hq⟩ := pick_bind _ _ _ hp
        cases q <;> (have := pick_leaf hq; subst this; exact ⟨rfl, rfl⟩)
      · exact (pick_fail hp).elim
    · rename_i hc
      split at hp
      · rename_i t x ht hx
        obtain ⟨X, hX, rfl⟩ := evl_one hx
        split at hp
        · rename_i n hn
          have := pick_leaf hp; subst this
          exact ⟨hok, .refl _, op_len hS hV hc (Array.ext' ht) (Array.ext' hX) hn hop⟩
        · exact (pick_fail hp).elim
      · exact (pick_fail hp).elim
    · rename_i hc
      split at hp
      · rename_i t t' s x ht hx
        obtain ⟨X, Y, hX, rfl, rfl⟩ := evl_two hx
        split at hp
        · rename_i he
          have he := of_decide_eq_true he
          subst he
          split at hp
          · rename_i v st' ha
            have := pick_leaf hp; subst this
            obtain ⟨h1, h2⟩ := op_append hS hV hc (Array.ext' ht) (Array.ext' hX) ha hok hle hop
            refine ⟨h1, ?_, h2⟩
            unfold appendL at ha
            repeat' split at ha
            all_goals first | (cases ha; done) | (simp at ha; obtain ⟨_, rfl⟩ := ha; exact ⟨by simp [OpOut.state, need_env, touch], by simp [OpOut.state, St.need, touch]⟩)
          · exact (pick_fail hp).elim
        · exact (pick_fail hp).elim
      · exact (pick_fail hp).elim
    · rename_i hc
      split at hp
      · rename_i t x ht hx
        obtain ⟨X, hX, rfl⟩ := evl_one hx
        split at hp
        · rename_i st' ha
          have := pick_leaf hp; subst this
          have hst : st'.ok = st.ok ∧ Same st (OpOut.val (T := T) (.tuple #[]) st').state := by
            unfold clearL at ha
            repeat' split at ha
            all_goals first | (cases ha; done) | (simp at ha; subst ha; exact ⟨rfl, ⟨by simp [OpOut.state, touch], by simp [OpOut.state, touch]⟩⟩)
          exact ⟨by rw [← hst.1]; exact hok, hst.2, op_clear hS hV hc (Array.ext' ht) (Array.ext' hX) ha hop⟩
        · exact (pick_fail hp).elim
      · exact (pick_fail hp).elim
    · rename_i hc
      split at hp
      · rename_i v hg hr
        have := pick_leaf hp; subst this
        exact ⟨hok, .refl _, (op_minmax hS hV hg).1 hc hr hop⟩
      · exact (pick_fail hp).elim
    · rename_i hc
      split at hp
      · rename_i v hg hr
        have := pick_leaf hp; subst this
        exact ⟨hok, .refl _, (op_minmax hS hV hg).2 hc hr hop⟩
      · exact (pick_fail hp).elim
    · exact (pick_fail hp).elim
  | _ => simp only [hop] at hp; exact (pick_fail hp).elim
end
end Go.Proofs.YtlflclfhldghbaaGreatDoor.Ls
end
section
namespace Go.Proofs.YtlflclfhldghbaaGreatDoor.Ls
open Go
section
variable {T : TypeId → VS} {cx : Cx T} {E : Emb} {st : St T} {a : Act} {w : World} {o : Oper}
structure StR (cx : Cx T) (E : Emb) (st : St T) (a : Act) (w : World) : Prop where
  sim : Sim cx.glob E st.heap w
  env : EnvR E st.heap.length st.env a
  size : a.tmps.size = cx.n
def RgOut.state : RgOut T → St T
  | .done st => st
  | .pan _ st => st
def RgK (cx : Cx T) (E : Emb) (st : St T) (a : Act) (w : World) (K : Act → World → Prop) (Q : Exit → Act → World → Prop) : RgOut T → Prop
  | .done st' => ∀ a' w' E', a'.defers = a.defers → StR cx E' st' a' w' → Stp cx.glob E st w E' st' w' → K a' w'
  | .pan v st' => ∀ v' a' w' E', a'.defers = a.defers → StR cx E' st' a' w' → VR E' st'.heap.length v v' → Stp cx.glob E st w E' st' w' → Q (.panic [{ v := v', recovered := false }]) a' w'
theorem getE_append (t : Nat) : ∀ (l m : List (Nat × Value)), (∀ p ∈ l, p.1 ≠ t) → getE (l ++ m) t = getE m t
  | [], m, _ => rfl
  | (s, v) :: r, m, h => by
    rw [List.cons_append, getE_cons, if_neg (h (s, v) (by simp))]
    exact getE_append t r m (fun p hp => h p (by simp [hp]))
theorem put_env {E : Emb} {N : Nat} {env : List (Nat × Value)} {t : Nat} {v v' : Value} (h : EnvR E N env a) (hv : VR E N v v') (ht : t < a.tmps.size) : EnvR E N ((t, v) :: env) (a.put (some t) v') := by
  intro u
  rw [getE_cons]
  by_cases hu : t = u
  · subst hu
    rw [if_pos rfl]
    simpa [Act.put, ht] using hv
  · rw [if_neg hu]
    have : (a.put (some t) v').tmps.getD u undef = a.tmps.getD u undef := by
      simp [Act.put, Array.getElem?_setIfInBounds_ne hu]
    rw [this]; exact h u
theorem learn_env {E : Emb} {N : Nat} {env : List (Nat × Value)} {t : Nat} {b : Bool} (h : EnvR E N env a) (hv : a.tmps.getD t undef = .bool b) : EnvR E N ((t, .bool b) :: env) a := by
  intro u
  rw [getE_cons]
  by_cases hu : t = u
  · subst hu
    rw [if_pos rfl, hv]; exact .scal _ rfl
  · rw [if_neg hu]; exact h u
theorem splitOn_sound (hR : StR cx E st a w) {x : Operand} {b : Bool} {st' : St T} (h : (splitOn cx st x).pick = some (b, st')) :
    a.eval x = .bool b ∧ StR cx E st' a w ∧ st'.heap = st.heap ∧ st'.dirty = st.dirty ∧ st'.gen = st.gen ∧ st'.ok = st.ok ∧ ∃ news, st'.env = news ++ st.env := by
  unfold splitOn at h
  split at h
  · rename_i c hc
    have ha := bool_of hR.sim hR.env hc
    have same : (c, st) = (b, st') → a.eval x = .bool b ∧ StR cx E st' a w ∧ st'.heap = st.heap ∧ st'.dirty = st.dirty ∧ st'.gen = st.gen ∧ st'.ok = st.ok ∧ ∃ news, st'.env = news ++ st.env := by
      intro e
      simp at e
      obtain ⟨rfl, rfl⟩ := e
      exact ⟨ha, hR, rfl, rfl, rfl, rfl, [], rfl⟩
    split at h
    · rename_i t
      have ht : a.tmps.getD t undef = .bool c := ha
      split at h
      · split at h
        · exact same (pick_leaf h)
        · exact same (pick_leaf h)
      · cases c with
        | true =>
          have := pick_leaf h
          simp at this; obtain ⟨rfl, rfl⟩ := this
          exact ⟨ha, ⟨hR.sim, learn_env hR.env ht, hR.size⟩, rfl, rfl, rfl, rfl, [_], rfl⟩
        | false =>
          have := pick_leaf h
          simp at this; obtain ⟨rfl, rfl⟩ := this
          exact ⟨ha, ⟨hR.sim, learn_env hR.env ht, hR.size⟩, rfl, rfl, rfl, rfl, [_], rfl⟩
    · split at h
      · exact same (pick_leaf h)
      · exact same (pick_leaf h)
  · exact (pick_fail h).elim
theorem put_eq {d : Option Tmp} {v : Value} {st' : St T} (h : st.put cx d v = some st') : st'.heap = st.heap ∧ st'.dirty = st.dirty ∧ st'.gen = st.gen ∧ st'.ok = st.ok ∧
    ((d = none ∧ st'.env = st.env) ∨ ∃ t, d = some t ∧ t < cx.n ∧ st'.env = (t, v) :: st.env) := by
  unfold St.put at h
  split at h
  · simp at h; subst h; exact ⟨rfl, rfl, rfl, rfl, .inl ⟨rfl, rfl⟩⟩
  · rename_i t
    split at h
    · rename_i hb
      simp at h; subst h
      exact ⟨rfl, rfl, rfl, rfl, .inr ⟨t, rfl, blt_lt hb, rfl⟩⟩
    · cases h
theorem put_StR {E : Emb} {w : World} {d : Option Tmp} {v v' : Value} {st' : St T} (hs : Sim cx.glob E st.heap w) (he : EnvR E st.heap.length st.env a) (hn : a.tmps.size = cx.n) (hv : VR E st.heap.length v v') (h : st.put cx d v = some st') : StR cx E st' (a.put d v') w := by
  obtain ⟨h1, h2, h3, h4, h5⟩ := put_eq h
  rcases h5 with ⟨rfl, h5⟩ | ⟨t, rfl, ht, h5⟩
  · exact ⟨by rw [h1]; exact hs, by rw [h1, h5]; exact he, hn⟩
  · exact ⟨by rw [h1]; exact hs, by rw [h1, h5]; exact put_env he hv (by rw [hn]; exact ht), by simpa [Act.put] using hn⟩
theorem note_eq (st : St T) (d : Option Tmp) (k : Bool) : (note st d k).heap = st.heap ∧ (note st d k).env = st.env ∧ (note st d k).dirty = st.dirty ∧ (note st d k).gen = st.gen ∧ (note st d k).ok = st.ok := by
  unfold note; split <;> exact ⟨rfl, rfl, rfl, rfl, rfl⟩
theorem doneOp_sound (hR : StR cx E st a w) (hC : CallOK cx) {k : Bool} {out : RgOut T} (hp : ((opL cx st o).bind (doneOp cx o k)).pick = some out) (hok : out.state.ok = true) :
    st.ok = true ∧ (∃ news, out.state.env = news ++ st.env) ∧ ∀ K Q, RgK cx E st a w K Q out → o.wp cx.P a w K Q := by
  obtain ⟨q, h1, h2⟩ := pick_bind _ _ _ hp
  cases q with
  | val v st1 =>
    simp only [doneOp] at h2
    split at h2
    · rename_i st2 hle hput
      have := pick_leaf h2; subst this
      obtain ⟨n1, n2, n3, n4, n5⟩ := note_eq st2 o.dst k
      obtain ⟨p1, p2, p3, p4, p5⟩ := put_eq hput
      have hok1 : st1.ok = true := by rw [← p4, ← n5]; exact hok
      obtain ⟨g1, g2, g3⟩ := opL_sound hR.sim hR.env hC h1 hok1 (Nat.le_of_ble_eq_true hle)
      refine ⟨g1, ?_, fun K Q hK => ?_⟩
      · simp only [RgOut.state]
        rw [n2]
        rcases p5 with ⟨_, e⟩ | ⟨t, _, _, e⟩
        · exact ⟨[], by rw [e]; exact g2.env⟩
        · exact ⟨[(t, v)], by rw [e]; simp [show st1.env = st.env from g2.env]⟩
      · refine g3 K Q (fun v' w' E' hv hs => hK (a.put o.dst v') w' E' ?_ ?_ ?_)
        · cases o.dst <;> rfl
        · have he : EnvR E' st1.heap.length st1.env a := by
            rw [show st1.env = st.env from g2.env]
            exact hR.env.mono hs.agr hs.len
          have hr := put_StR hs.sim he hR.size hv hput
          exact ⟨by rw [n1]; exact hr.sim, by rw [n1, n2]; exact hr.env, hr.size⟩
        · exact hs.of rfl (by rw [n1, p1]) (fun id hid => by rw [n3, p2]; exact hid) (fun id hid => by rw [n3, p2]; exact hs.mono id hid) (by rw [n4, p3]; exact hs.gen)
    · exact (pick_fail h2).elim
  | pan v st1 =>
    simp only [doneOp] at h2
    split at h2
    · rename_i hle
      have := pick_leaf h2; subst this
      obtain ⟨g1, g2, g3⟩ := opL_sound hR.sim hR.env hC h1 hok (Nat.le_of_ble_eq_true hle)
      exact ⟨g1, ⟨[], g2.env⟩, fun K Q hK => g3 K Q (fun v' w' E' hv hs => hK v' a w' E' rfl ⟨hs.sim, by rw [show st1.env = st.env from g2.env]; exact hR.env.mono hs.agr hs.len, hR.size⟩ hv hs)⟩
    · exact (pick_fail h2).elim
theorem yielded_eq {ops : Array Oper} {j t : Nat} {g : Oper} {b : Bool} (hj : ops.toList[j]? = some g) (hg : g.dst = some t) (ht : a.tmps.getD t undef = .bool b) : yielded ops a.tmps j = some b := by
  have hj' : ops[j]? = some g := by simpa using hj
  have : a.tmps[t]? = some (.bool b) := by
    cases h : a.tmps[t]? with
    | none => rw [Array.getD_eq_getD_getElem?, h] at ht; simp [undef] at ht
    | some v => rw [Array.getD_eq_getD_getElem?, h] at ht; simpa using ht
  simp [yielded, hj', hg, this]
theorem oneOp_sound (hR : StR cx E st a w) (hC : CallOK cx) {ops : Array Oper} {i : Nat} (hi : ops[i]? = some o) {out : RgOut T} (hp : (oneOp cx ops.toList o st).pick = some out) (hok : out.state.ok = true) :
    st.ok = true ∧ (∃ news, out.state.env = news ++ st.env) ∧ ∀ K Q, RgK cx E st a w K Q out → wpOp cx.P ops Q i K a w := by
  unfold oneOp at hp
  cases hg : o.guard with
  | none =>
    simp only [hg] at hp
    obtain ⟨h1, h2, h3⟩ := doneOp_sound hR hC hp hok
    refine ⟨h1, h2, fun K Q hK => ?_⟩
    unfold wpOp
    simp only [hi]
    rw [if_pos (by simp [Region.wanted, hg])]
    exact .inl (h3 K Q hK)
  | some gd =>
    obtain ⟨j, want⟩ := gd
    simp only [hg] at hp
    split at hp
    · exact (pick_fail hp).elim
    · rename_i g hj
      split at hp
      · exact (pick_fail hp).elim
      · rename_i t hdst
        split at hp
        · rename_i hsk
          split at hp
          · rename_i st2 hput
            have := pick_leaf hp; subst this
            obtain ⟨p1, p2, p3, p4, p5⟩ := put_eq hput
            have hu : a.tmps.getD t undef = undef := by
              have hv := hR.env t
              have e0 : st.ev (.tmp t) = getE st.env t := rfl
              rw [e0] at hsk
              generalize getE st.env t = x at hv hsk
              generalize a.tmps.getD t undef = y at hv
              unfold isSkip at hsk
              split at hsk
              · cases hv with
                | scal _ hs => simp [scalar] at hs
                | skip => rfl
              · cases hsk
            have hy : yielded ops a.tmps j ≠ some want := by
              intro hy
              have hj' : ops[j]? = some g := by simpa using hj
              simp only [yielded, hj', hdst, Option.bind_some] at hy
              split at hy
              · rename_i b hb
                rw [Array.getD_eq_getD_getElem?] at hu
                have : a.tmps[t]? = some (.bool b) := by simpa using hb
                rw [this] at hu; simp [undef] at hu
              · cases hy
            refine ⟨by rw [← p4]; exact hok, ?_, fun K Q hK => ?_⟩
            · simp only [RgOut.state]
              rcases p5 with ⟨_, e⟩ | ⟨t', _, _, e⟩
              · exact ⟨[], by rw [e]; rfl⟩
              · exact ⟨[(t', skipV)], by rw [e]; rfl⟩
            · unfold wpOp
              simp only [hi]
              rw [if_neg (by simp [Region.wanted, hg]; exact hy)]
              refine hK _ w E (by cases o.dst <;> rfl) (put_StR hR.sim hR.env hR.size .skip hput) ?_
              exact (Stp.refl hR.sim).of rfl p1 (fun id hid => by rw [p2]; exact hid) (fun id hid => by rw [p2]; exact hid) p3
          · exact (pick_fail hp).elim
        obtain ⟨⟨b, st1⟩, h1, h2⟩ := pick_bind _ _ _ hp
        obtain ⟨s1, s2, s3, s4, s5, s6, news, s7⟩ := splitOn_sound hR h1
        have hy : yielded ops a.tmps j = some b := yielded_eq hj hdst s1
        have hstp : Stp cx.glob E st w E st1 w := (Stp.refl hR.sim).of rfl s3 (fun id hid => by rw [s4]; exact hid) (fun id hid => by rw [s4]; exact hid) s5
        simp only at h2
        split at h2
        · rename_i hbw
          have hbw : b = want := by simpa using hbw
          obtain ⟨g1, ⟨n2, g2⟩, g3⟩ := doneOp_sound s2 hC h2 hok
          refine ⟨by rw [← s6]; exact g1, ⟨n2 ++ news, by rw [g2, s7]; simp⟩, fun K Q hK => ?_⟩
          unfold wpOp
          simp only [hi]
          rw [if_pos (by simp [Region.wanted, hg, hy, hbw])]
          refine .inl (g3 K Q ?_)
          cases out with
          | done st' => exact fun a' w' E' hd hr hs => hK a' w' E' hd hr (hstp.trans hs)
          | pan v st' => exact fun v' a' w' E' hd hr hv hs => hK v' a' w' E' hd hr hv (hstp.trans hs)
        · rename_i hbw
          have hbw : b ≠ want := by simpa using hbw
          split at h2
          · rename_i st2 hput
            have := pick_leaf h2; subst this
            obtain ⟨p1, p2, p3, p4, p5⟩ := put_eq hput
            refine ⟨by rw [← s6, ← p4]; exact hok, ?_, fun K Q hK => ?_⟩
            · simp only [RgOut.state]
              rcases p5 with ⟨_, e⟩ | ⟨t', _, _, e⟩
              · exact ⟨news, by rw [e, s7]⟩
              · exact ⟨(t', skipV) :: news, by rw [e, s7]; rfl⟩
            · unfold wpOp
              simp only [hi]
              rw [if_neg (by simp [Region.wanted, hg, hy, hbw])]
              refine hK _ w E (by cases o.dst <;> rfl) (put_StR s2.sim s2.env s2.size .skip hput) ?_
              exact hstp.of rfl p1 (fun id hid => by rw [p2]; exact hid) (fun id hid => by rw [p2, s4]; exact hid) (by rw [p3, s5])
          · exact (pick_fail h2).elim
theorem storeL_ok {t : TypeId} {p v : Value} {st' : St T} (h : storeL cx st t p v = some st') (hok : st'.ok = true) : st.ok = true := by
  unfold storeL at h
  repeat' split at h
  all_goals first | (cases h; done) | (simp at h; subst h; simp [touch, St.need] at hok; first | exact hok | exact hok.1)
theorem sliceL_ok {t : TypeId} {x v : Value} {lo hi mx : Option Value} {st' : St T} (h : sliceL cx st t x lo hi mx = some (v, st')) (hok : st'.ok = true) : st.ok = true := by
  unfold sliceL at h
  repeat' split at h
  all_goals first | (cases h; done) | (simp at h; obtain ⟨_, rfl⟩ := h; first | exact hok | (simp [St.need] at hok; exact hok.1))
theorem clearL_ok {t : TypeId} {x : Value} {st' : St T} (h : clearL cx st t x = some st') (hok : st'.ok = true) : st.ok = true := by
  unfold clearL at h
  repeat' split at h
  all_goals first | (cases h; done) | (simp at h; subst h; exact hok)
theorem appendL_ok {t : TypeId} {x v y : Value} {st' : St T} (h : appendL cx st t x y = some (v, st')) (hok : st'.ok = true) : st.ok = true := by
  unfold appendL at h
  repeat' split at h
  all_goals first | (cases h; done) | (simp at h; obtain ⟨_, rfl⟩ := h; first | exact hok | (simp [St.need, touch] at hok; exact hok.1))
set_option maxHeartbeats 2000000 in
theorem opL_ok {out : OpOut T} (hp : (opL cx st o).pick = some out) (hok : out.state.ok = true) : st.ok = true := by
  unfold opL at hp
  cases hop : o.op with
  | store t p x =>
    simp only [hop] at hp
    split at hp
    · rename_i st' h; have := pick_leaf hp; subst this; exact storeL_ok h hok
    · exact (pick_fail hp).elim
  | slice t x lo hi mx =>
    simp only [hop] at hp
    split at hp
    · rename_i v st' h; have := pick_leaf hp; subst this; exact sliceL_ok h hok
    · exact (pick_fail hp).elim
  | load t x => simp only [hop] at hp; obtain ⟨v, g, _, rfl⟩ := outV_pick hp; exact (need_ok hok).1
  | binOp => simp only [hop] at hp; split at hp <;> (obtain ⟨v, g, _, rfl⟩ := outV_pick hp; exact (need_ok hok).1)
  | indexAddr => simp only [hop] at hp; obtain ⟨v, g, _, rfl⟩ := outV_pick hp; exact (need_ok hok).1
  | makeSlice t l c =>
    simp only [hop] at hp
    repeat' split at hp
    all_goals first | exact (pick_fail hp).elim | (have := pick_leaf hp; subst this; exact (need_ok (st := st) hok).1)
  | index t x i =>
    simp only [hop] at hp
    split at hp
    · obtain ⟨v, g, _, rfl⟩ := outV_pick hp; exact (need_ok hok).1
    · repeat' split at hp
      all_goals first | exact (pick_fail hp).elim | (have := pick_leaf hp; subst this; exact hok)
    · exact (pick_fail hp).elim
  | call c =>
    simp only [hop] at hp
    split at hp
    · split at hp
      · obtain ⟨q, _, hq⟩ := pick_bind _ _ _ hp
        cases q <;> (have := pick_leaf hq; subst this; simp [OpOut.state] at hok; exact hok.1)
      · exact (pick_fail hp).elim
    · repeat' split at hp
      all_goals first | exact (pick_fail hp).elim | (have := pick_leaf hp; subst this; exact hok)
    · split at hp
      · split at hp
        · split at hp
          · rename_i v st' h; have := pick_leaf hp; subst this; exact appendL_ok h hok
          · exact (pick_fail hp).elim
        · exact (pick_fail hp).elim
      · exact (pick_fail hp).elim
    · split at hp
      · split at hp
        · rename_i st' h; have := pick_leaf hp; subst this; exact clearL_ok h hok
        · exact (pick_fail hp).elim
      · exact (pick_fail hp).elim
    · repeat' split at hp
      all_goals first | exact (pick_fail hp).elim | (have := pick_leaf hp; subst this; exact hok)
    · repeat' split at hp
      all_goals first | exact (pick_fail hp).elim | (have := pick_leaf hp; subst this; exact hok)
    · exact (pick_fail hp).elim
  | _ =>
    simp only [hop] at hp
    repeat' split at hp
    all_goals first | exact (pick_fail hp).elim | (have := pick_leaf hp; subst this; exact hok)
theorem doneOp_ok {k : Bool} {out : RgOut T} (hp : ((opL cx st o).bind (doneOp cx o k)).pick = some out) (hok : out.state.ok = true) : st.ok = true := by
  obtain ⟨q, h1, h2⟩ := pick_bind _ _ _ hp
  cases q with
  | val v st1 =>
    simp only [doneOp] at h2
    split at h2
    · rename_i st2 hle hput
      have := pick_leaf h2; subst this
      refine opL_ok h1 ?_
      show st1.ok = true
      rw [← (put_eq hput).2.2.2.1, ← (note_eq st2 o.dst k).2.2.2.2]; exact hok
    · exact (pick_fail h2).elim
  | pan v st1 =>
    simp only [doneOp] at h2
    split at h2
    · have := pick_leaf h2; subst this; exact opL_ok h1 hok
    · exact (pick_fail h2).elim
theorem splitOn_ok {x : Operand} {b : Bool} {st' : St T} (h : (splitOn cx st x).pick = some (b, st')) : st'.ok = st.ok ∧ st'.heap = st.heap ∧ st'.dirty = st.dirty ∧ st'.gen = st.gen ∧ ∃ news, st'.env = news ++ st.env := by
  unfold splitOn at h
  split at h
  · rename_i c hc
    have same : (c, st) = (b, st') → st'.ok = st.ok ∧ st'.heap = st.heap ∧ st'.dirty = st.dirty ∧ st'.gen = st.gen ∧ ∃ news, st'.env = news ++ st.env := by
      intro e; simp at e; obtain ⟨rfl, rfl⟩ := e; exact ⟨rfl, rfl, rfl, rfl, [], rfl⟩
    split at h
    · split at h
      · split at h
        · exact same (pick_leaf h)
        · exact same (pick_leaf h)
      · cases c with
        | true => have := pick_leaf h; simp at this; obtain ⟨rfl, rfl⟩ := this; exact ⟨rfl, rfl, rfl, rfl, [_], rfl⟩
        | false => have := pick_leaf h; simp at this; obtain ⟨rfl, rfl⟩ := this; exact ⟨rfl, rfl, rfl, rfl, [_], rfl⟩
    · split at h
      · exact same (pick_leaf h)
      · exact same (pick_leaf h)
  · exact (pick_fail h).elim
theorem storeL_env {t : TypeId} {p v : Value} {st' : St T} (h : storeL cx st t p v = some st') : st'.env = st.env := by
  unfold storeL at h
  repeat' split at h
  all_goals first | (cases h; done) | (simp at h; subst h; rfl)
theorem sliceL_env {t : TypeId} {x v : Value} {lo hi mx : Option Value} {st' : St T} (h : sliceL cx st t x lo hi mx = some (v, st')) : st'.env = st.env := by
  unfold sliceL at h
  repeat' split at h
  all_goals first | (cases h; done) | (simp at h; obtain ⟨_, rfl⟩ := h; rfl)
theorem clearL_env {t : TypeId} {x : Value} {st' : St T} (h : clearL cx st t x = some st') : st'.env = st.env := by
  unfold clearL at h
  repeat' split at h
  all_goals first | (cases h; done) | (simp at h; subst h; rfl)
theorem appendL_env {t : TypeId} {x v y : Value} {st' : St T} (h : appendL cx st t x y = some (v, st')) : st'.env = st.env := by
  unfold appendL at h
  repeat' split at h
  all_goals first | (cases h; done) | (simp at h; obtain ⟨_, rfl⟩ := h; rfl)
set_option maxHeartbeats 2000000 in
theorem opL_env {out : OpOut T} (hp : (opL cx st o).pick = some out) : out.state.env = st.env := by
  unfold opL at hp
  cases hop : o.op with
  | store t p x =>
    simp only [hop] at hp
    split at hp
    · rename_i st' h; have := pick_leaf hp; subst this; exact storeL_env h
    · exact (pick_fail hp).elim
  | slice t x lo hi mx =>
    simp only [hop] at hp
    split at hp
    · rename_i v st' h; have := pick_leaf hp; subst this; exact sliceL_env h
    · exact (pick_fail hp).elim
  | load t x => simp only [hop] at hp; obtain ⟨v, g, _, rfl⟩ := outV_pick hp; exact need_env _ _
  | binOp => simp only [hop] at hp; split at hp <;> (obtain ⟨v, g, _, rfl⟩ := outV_pick hp; exact need_env _ _)
  | indexAddr => simp only [hop] at hp; obtain ⟨v, g, _, rfl⟩ := outV_pick hp; exact need_env _ _
  | index t x i =>
    simp only [hop] at hp
    split at hp
    · obtain ⟨v, g, _, rfl⟩ := outV_pick hp; exact need_env _ _
    · repeat' split at hp
      all_goals first | exact (pick_fail hp).elim | (have := pick_leaf hp; subst this; rfl)
    · exact (pick_fail hp).elim
  | call c =>
    simp only [hop] at hp
    split at hp
    · split at hp
      · obtain ⟨q, _, hq⟩ := pick_bind _ _ _ hp
        cases q <;> (have := pick_leaf hq; subst this; rfl)
      · exact (pick_fail hp).elim
    · repeat' split at hp
      all_goals first | exact (pick_fail hp).elim | (have := pick_leaf hp; subst this; rfl)
    · split at hp
      · split at hp
        · split at hp
          · rename_i v st' h; have := pick_leaf hp; subst this; exact appendL_env h
          · exact (pick_fail hp).elim
        · exact (pick_fail hp).elim
      · exact (pick_fail hp).elim
    · split at hp
      · split at hp
        · rename_i st' h; have := pick_leaf hp; subst this; exact clearL_env h
        · exact (pick_fail hp).elim
      · exact (pick_fail hp).elim
    · repeat' split at hp
      all_goals first | exact (pick_fail hp).elim | (have := pick_leaf hp; subst this; rfl)
    · repeat' split at hp
      all_goals first | exact (pick_fail hp).elim | (have := pick_leaf hp; subst this; rfl)
    · exact (pick_fail hp).elim
  | _ =>
    simp only [hop] at hp
    repeat' split at hp
    all_goals first | exact (pick_fail hp).elim | (have := pick_leaf hp; subst this; rfl)
theorem doneOp_env {k : Bool} {out : RgOut T} (hp : ((opL cx st o).bind (doneOp cx o k)).pick = some out) : ∃ news, out.state.env = news ++ st.env := by
  obtain ⟨q, h1, h2⟩ := pick_bind _ _ _ hp
  cases q with
  | val v st1 =>
    simp only [doneOp] at h2
    split at h2
    · rename_i st2 hle hput
      have := pick_leaf h2; subst this
      have e0 : st1.env = st.env := opL_env h1
      simp only [RgOut.state]
      rw [(note_eq st2 o.dst k).2.1]
      rcases (put_eq hput).2.2.2.2 with ⟨_, e⟩ | ⟨t, _, _, e⟩
      · exact ⟨[], by rw [e, e0]; rfl⟩
      · exact ⟨[(t, v)], by rw [e, e0]; rfl⟩
    · exact (pick_fail h2).elim
  | pan v st1 =>
    simp only [doneOp] at h2
    split at h2
    · have := pick_leaf h2; subst this; exact ⟨[], opL_env h1⟩
    · exact (pick_fail h2).elim
theorem oneOp_env {ops : List Oper} {out : RgOut T} (hp : (oneOp cx ops o st).pick = some out) : ∃ news, out.state.env = news ++ st.env := by
  unfold oneOp at hp
  split at hp
  · exact doneOp_env hp
  · split at hp
    · exact (pick_fail hp).elim
    · split at hp
      · exact (pick_fail hp).elim
      · split at hp
        · split at hp
          · rename_i st2 hput
            have := pick_leaf hp; subst this
            rcases (put_eq hput).2.2.2.2 with ⟨_, e⟩ | ⟨t, _, _, e⟩
            · exact ⟨[], by simp only [RgOut.state]; rw [e]; rfl⟩
            · exact ⟨[(t, skipV)], by simp only [RgOut.state]; rw [e]; rfl⟩
          · exact (pick_fail hp).elim
        obtain ⟨⟨b, st1⟩, h1, h2⟩ := pick_bind _ _ _ hp
        obtain ⟨n1, e1⟩ := (splitOn_ok h1).2.2.2.2
        simp only at h2
        split at h2
        · obtain ⟨n2, e2⟩ := doneOp_env h2
          exact ⟨n2 ++ n1, by rw [e2, e1]; simp⟩
        · split at h2
          · rename_i st2 hput
            have := pick_leaf h2; subst this
            simp only [RgOut.state]
            rcases (put_eq hput).2.2.2.2 with ⟨_, e⟩ | ⟨t, _, _, e⟩
            · exact ⟨n1, by rw [e, e1]⟩
            · exact ⟨(t, skipV) :: n1, by rw [e, e1]; rfl⟩
          · exact (pick_fail h2).elim
theorem opsL_env {ops : List Oper} : ∀ (l : List Oper) {st : St T} {out : RgOut T}, (opsL cx ops l st).pick = some out → ∃ news, out.state.env = news ++ st.env
  | [], st, out, hp => by have := pick_leaf hp; subst this; exact ⟨[], rfl⟩
  | o :: r, st, out, hp => by
    simp only [opsL] at hp
    obtain ⟨q, h1, h2⟩ := pick_bind _ _ _ hp
    obtain ⟨n1, e1⟩ := oneOp_env h1
    cases q with
    | done st1 =>
      obtain ⟨n2, e2⟩ := opsL_env r h2
      exact ⟨n2 ++ n1, by rw [e2, show st1.env = n1 ++ st.env from e1]; simp⟩
    | pan v st1 => have := pick_leaf h2; subst this; exact ⟨n1, e1⟩
theorem oneOp_ok {ops : List Oper} {out : RgOut T} (hp : (oneOp cx ops o st).pick = some out) (hok : out.state.ok = true) : st.ok = true := by
  unfold oneOp at hp
  split at hp
  · exact doneOp_ok hp hok
  · split at hp
    · exact (pick_fail hp).elim
    · split at hp
      · exact (pick_fail hp).elim
      · split at hp
        · split at hp
          · rename_i st2 hput
            have := pick_leaf hp; subst this
            rw [← (put_eq hput).2.2.2.1]; exact hok
          · exact (pick_fail hp).elim
        obtain ⟨⟨b, st1⟩, h1, h2⟩ := pick_bind _ _ _ hp
        rw [← (splitOn_ok h1).1]
        simp only at h2
        split at h2
        · exact doneOp_ok h2 hok
        · split at h2
          · rename_i st2 hput
            have := pick_leaf h2; subst this
            rw [← (put_eq hput).2.2.2.1]; exact hok
          · exact (pick_fail h2).elim
theorem opsL_ok {ops : List Oper} : ∀ (l : List Oper) {st : St T} {out : RgOut T}, (opsL cx ops l st).pick = some out → out.state.ok = true → st.ok = true
  | [], st, out, hp, hok => by have := pick_leaf hp; subst this; exact hok
  | o :: r, st, out, hp, hok => by
    simp only [opsL] at hp
    obtain ⟨q, h1, h2⟩ := pick_bind _ _ _ hp
    cases q with
    | done st1 => exact oneOp_ok h1 (opsL_ok r h2 hok)
    | pan v st1 => have := pick_leaf h2; subst this; exact oneOp_ok h1 hok
theorem storeL_gen {t : TypeId} {p v : Value} {st' : St T} (h : storeL cx st t p v = some st') : st'.gen = st.gen := by
  unfold storeL at h
  repeat' split at h
  all_goals first | (cases h; done) | (simp at h; subst h; rfl)
theorem sliceL_gen {t : TypeId} {x v : Value} {lo hi mx : Option Value} {st' : St T} (h : sliceL cx st t x lo hi mx = some (v, st')) : st'.gen = st.gen := by
  unfold sliceL at h
  repeat' split at h
  all_goals first | (cases h; done) | (simp at h; obtain ⟨_, rfl⟩ := h; rfl)
theorem clearL_gen {t : TypeId} {x : Value} {st' : St T} (h : clearL cx st t x = some st') : st'.gen = st.gen := by
  unfold clearL at h
  repeat' split at h
  all_goals first | (cases h; done) | (simp at h; subst h; rfl)
theorem appendL_gen {t : TypeId} {x v y : Value} {st' : St T} (h : appendL cx st t x y = some (v, st')) : st'.gen = st.gen := by
  unfold appendL at h
  repeat' split at h
  all_goals first | (cases h; done) | (simp at h; obtain ⟨_, rfl⟩ := h; rfl)
set_option maxHeartbeats 2000000 in
theorem opL_gen {out : OpOut T} (hp : (opL cx st o).pick = some out) : out.state.gen = st.gen := by
  unfold opL at hp
  cases hop : o.op with
  | store t p x =>
    simp only [hop] at hp
    split at hp
    · rename_i st' h; have := pick_leaf hp; subst this; exact storeL_gen h
    · exact (pick_fail hp).elim
  | slice t x lo hi mx =>
    simp only [hop] at hp
    split at hp
    · rename_i v st' h; have := pick_leaf hp; subst this; exact sliceL_gen h
    · exact (pick_fail hp).elim
  | load t x => simp only [hop] at hp; obtain ⟨v, g, _, rfl⟩ := outV_pick hp; exact need_gen _ _
  | binOp => simp only [hop] at hp; split at hp <;> (obtain ⟨v, g, _, rfl⟩ := outV_pick hp; exact need_gen _ _)
  | indexAddr => simp only [hop] at hp; obtain ⟨v, g, _, rfl⟩ := outV_pick hp; exact need_gen _ _
  | index t x i =>
    simp only [hop] at hp
    split at hp
    · obtain ⟨v, g, _, rfl⟩ := outV_pick hp; exact need_gen _ _
    · repeat' split at hp
      all_goals first | exact (pick_fail hp).elim | (have := pick_leaf hp; subst this; rfl)
    · exact (pick_fail hp).elim
  | call c =>
    simp only [hop] at hp
    split at hp
    · split at hp
      · obtain ⟨q, _, hq⟩ := pick_bind _ _ _ hp
        cases q <;> (have := pick_leaf hq; subst this; rfl)
      · exact (pick_fail hp).elim
    · repeat' split at hp
      all_goals first | exact (pick_fail hp).elim | (have := pick_leaf hp; subst this; rfl)
    · split at hp
      · split at hp
        · split at hp
          · rename_i v st' h; have := pick_leaf hp; subst this; exact appendL_gen h
          · exact (pick_fail hp).elim
        · exact (pick_fail hp).elim
      · exact (pick_fail hp).elim
    · split at hp
      · split at hp
        · rename_i st' h; have := pick_leaf hp; subst this; exact clearL_gen h
        · exact (pick_fail hp).elim
      · exact (pick_fail hp).elim
    · repeat' split at hp
      all_goals first | exact (pick_fail hp).elim | (have := pick_leaf hp; subst this; rfl)
    · repeat' split at hp
      all_goals first | exact (pick_fail hp).elim | (have := pick_leaf hp; subst this; rfl)
    · exact (pick_fail hp).elim
  | _ =>
    simp only [hop] at hp
    repeat' split at hp
    all_goals first | exact (pick_fail hp).elim | (have := pick_leaf hp; subst this; rfl)
theorem doneOp_gen {k : Bool} {out : RgOut T} (hp : ((opL cx st o).bind (doneOp cx o k)).pick = some out) : out.state.gen = st.gen := by
  obtain ⟨q, h1, h2⟩ := pick_bind _ _ _ hp
  cases q with
  | val v st1 =>
    simp only [doneOp] at h2
    split at h2
    · rename_i st2 hle hput
      have := pick_leaf h2; subst this
      have e0 : st1.gen = st.gen := opL_gen h1
      simp only [RgOut.state]
      rw [(note_eq st2 o.dst k).2.2.2.1, (put_eq hput).2.2.1, e0]
    · exact (pick_fail h2).elim
  | pan v st1 =>
    simp only [doneOp] at h2
    split at h2
    · have := pick_leaf h2; subst this; exact opL_gen h1
    · exact (pick_fail h2).elim
theorem oneOp_gen {ops : List Oper} {out : RgOut T} (hp : (oneOp cx ops o st).pick = some out) : out.state.gen = st.gen := by
  unfold oneOp at hp
  split at hp
  · exact doneOp_gen hp
  · split at hp
    · exact (pick_fail hp).elim
    · split at hp
      · exact (pick_fail hp).elim
      · split at hp
        · split at hp
          · rename_i st2 hput
            have := pick_leaf hp; subst this
            simp only [RgOut.state]
            exact (put_eq hput).2.2.1
          · exact (pick_fail hp).elim
        obtain ⟨⟨b, st1⟩, h1, h2⟩ := pick_bind _ _ _ hp
        have e1 := (splitOn_ok h1).2.2.2.1
        simp only at h2
        split at h2
        · rw [doneOp_gen h2, e1]
        · split at h2
          · rename_i st2 hput
            have := pick_leaf h2; subst this
            simp only [RgOut.state]
            rw [(put_eq hput).2.2.1, e1]
          · exact (pick_fail h2).elim
theorem opsL_gen {ops : List Oper} : ∀ (l : List Oper) {st : St T} {out : RgOut T}, (opsL cx ops l st).pick = some out → out.state.gen = st.gen
  | [], st, out, hp => by have := pick_leaf hp; subst this; rfl
  | o :: r, st, out, hp => by
    simp only [opsL] at hp
    obtain ⟨q, h1, h2⟩ := pick_bind _ _ _ hp
    have e1 := oneOp_gen h1
    cases q with
    | done st1 => rw [opsL_gen r h2]; exact e1
    | pan v st1 => have := pick_leaf h2; subst this; exact e1
theorem opsL_sound (hC : CallOK cx) {ops : Array Oper} : ∀ (l : List Oper) (k : Nat), ops.toList.drop k = l → ∀ {E : Emb} {st : St T} {a : Act} {w : World}, StR cx E st a w → ∀ {out : RgOut T}, (opsL cx ops.toList l st).pick = some out → out.state.ok = true →
    st.ok = true ∧ (∃ news, out.state.env = news ++ st.env) ∧ ∀ Q, RgK cx E st a w (Q .normal) Q out → wpOps cx.P ops Q (List.range' k l.length) a w
  | [], k, hk, E, st, a, w, hR, out, hp, hok => by
    have := pick_leaf hp; subst this
    exact ⟨hok, ⟨[], rfl⟩, fun Q hK => hK a w E rfl hR (Stp.refl hR.sim)⟩
  | o :: r, k, hk, E, st, a, w, hR, out, hp, hok => by
    simp only [opsL] at hp
    obtain ⟨q, h1, h2⟩ := pick_bind _ _ _ hp
    have hi : ops[k]? = some o := by
      have := congrArg List.head? hk
      simpa [List.head?_drop] using this
    have hk' : ops.toList.drop (k + 1) = r := by
      rw [← List.drop_drop, hk]; rfl
    cases q with
    | done st1 =>
      simp only at h2
      have hok1 : st1.ok = true := opsL_ok r h2 hok
      obtain ⟨g1, ⟨n1, g2⟩, g3⟩ := oneOp_sound hR hC hi h1 hok1
      have henv : ∃ news, out.state.env = news ++ st1.env := opsL_env r h2
      obtain ⟨n2, hn2⟩ := henv
      refine ⟨g1, ⟨n2 ++ n1, by rw [hn2, show st1.env = n1 ++ st.env from g2]; simp⟩, fun Q hK => ?_⟩
      rw [List.length_cons, List.range'_succ, wpOps_cons]
      refine g3 _ Q (fun a' w' E' hd hr hs => ?_)
      obtain ⟨_, _, k3⟩ := opsL_sound hC r (k + 1) hk' hr h2 hok
      refine k3 Q ?_
      cases out with
      | done st2 => exact fun a2 w2 E2 hd2 hr2 hs2 => hK a2 w2 E2 (hd2.trans hd) hr2 (hs.trans hs2)
      | pan v st2 => exact fun v' a2 w2 E2 hd2 hr2 hv hs2 => hK v' a2 w2 E2 (hd2.trans hd) hr2 hv (hs.trans hs2)
    | pan v st1 =>
      have := pick_leaf h2; subst this
      obtain ⟨g1, g2, g3⟩ := oneOp_sound hR hC hi h1 hok
      refine ⟨g1, g2, fun Q hK => ?_⟩
      rw [List.length_cons, List.range'_succ, wpOps_cons]
      exact g3 _ Q hK
end
end Go.Proofs.YtlflclfhldghbaaGreatDoor.Ls
end
section
namespace Go.Proofs.YtlflclfhldghbaaGreatDoor.Ls
open Go
def Asg.le (A A' : Asg) : Prop := ∀ i t, A.find i = some t → A'.find i = some t
theorem Asg.le.refl (A : Asg) : A.le A := fun _ _ h => h
theorem Asg.le.trans {A B C : Asg} (h : A.le B) (k : B.le C) : A.le C := fun i t hi => k i t (h i t hi)
theorem find_cons (j i : Nat) (t : Tgt) (r : Asg) : Asg.find ((j, t) :: r) i = if j = i then some t else Asg.find r i := by
  simp only [Asg.find]
  cases h : Nat.beq j i with
  | true => rw [if_pos (Nat.eq_of_beq_eq_true h)]
  | false => rw [if_neg (Nat.ne_of_beq_eq_false h)]
theorem ble_false {a b : Nat} (h : Nat.ble a b = false) : b < a := by
  rcases Nat.lt_or_ge b a with h' | h'
  · exact h'
  · rw [Nat.ble_eq_true_of_le h'] at h; cases h
theorem bind_form {A A' : Asg} {i : Nat} {t : Tgt} (h : A.bind i t = some A') :
    (A' = A ∧ ((GB ≤ i ∧ t = .obj i) ∨ (i < GB ∧ A.find i = some t))) ∨ (i < GB ∧ A.find i = none ∧ A' = (i, t) :: A ∧ (∀ b, t = .obj b → b < GB) ∧ (∀ b o n, t = .view b o n → b < GB)) := by
  unfold Asg.bind at h
  split at h
  · rename_i hb
    have hb := Nat.le_of_ble_eq_true hb
    split at h
    · split at h
      · rename_i e
        simp at h; subst h
        have e := Nat.eq_of_beq_eq_true e
        subst e
        exact .inl ⟨rfl, .inl ⟨hb, rfl⟩⟩
      · cases h
    · cases h
  · rename_i hb
    have hb := ble_false hb
    split at h
    · rename_i hn
      split at h
      · split at h
        · cases h
        · rename_i e; simp at h; exact .inr ⟨hb, hn, h.symm, (by intro b e'; cases e'; exact ble_false e), (by intro b o n e'; cases e')⟩
      · split at h
        · cases h
        · rename_i e; simp at h; exact .inr ⟨hb, hn, h.symm, (by intro b e'; cases e'), (by intro b o n e'; cases e'; exact ble_false e)⟩
      · simp at h; exact .inr ⟨hb, hn, h.symm, (by intro b e'; cases e'), (by intro b o n e'; cases e')⟩
    · rename_i b' hn
      split at h
      · split at h
        · rename_i e
          simp at h; subst h
          have e := Nat.eq_of_beq_eq_true e
          subst e
          exact .inl ⟨rfl, .inr ⟨hb, hn⟩⟩
        · cases h
      · cases h
    · cases h
theorem bind_spec {A A' : Asg} {i : Nat} {t : Tgt} (h : A.bind i t = some A') : A.le A' ∧ (GB ≤ i → t = .obj i ∧ A' = A) ∧ (i < GB → A'.find i = some t) := by
  rcases bind_form h with ⟨rfl, ⟨h1, h2⟩ | ⟨h1, h2⟩⟩ | ⟨h1, h2, rfl, _⟩
  · exact ⟨.refl _, fun _ => ⟨h2, rfl⟩, fun h => by omega⟩
  · exact ⟨.refl _, fun h => by omega, fun _ => h2⟩
  · refine ⟨fun j u hj => ?_, fun h => by omega, fun _ => by rw [find_cons, if_pos rfl]⟩
    rw [find_cons]
    by_cases e : i = j
    · subst e; rw [h2] at hj; cases hj
    · rw [if_neg e]; exact hj
section
variable {T : TypeId → VS}
def esOf (T : TypeId → VS) (os : List OS) (i : Nat) : Nat :=
  match os[i]? with
  | some (.row _ e) => (T e).size
  | _ => 0
def EA (T : TypeId → VS) (E : Emb) (W : Nat) (os : List OS) (A : Asg) (i : Nat) : Loc :=
  if GB ≤ i then E i else
  match A.find i with
  | some (.obj b) => E b
  | some (.view b o n) => ⟨(E b).blk, (E b).base + o * (E b).es, (E b).lim - o, (E b).es, n, (E b).rw⟩
  | _ => ⟨W, 0, 0, esOf T os i, 0, true⟩
theorem EA_obj {E : Emb} {W : Nat} {os : List OS} {A : Asg} {i b : Nat} (h : A.find i = some (.obj b)) (hi : i < GB) : EA T E W os A i = E b := by
  unfold EA; rw [if_neg (by omega), h]
theorem EA_ge {E : Emb} {W : Nat} {os : List OS} {A : Asg} {i : Nat} (hi : GB ≤ i) : EA T E W os A i = E i := by
  unfold EA; rw [if_pos hi]
theorem bind_EA {E : Emb} {W : Nat} {os : List OS} {A A' A'' : Asg} {i b : Nat} (h : A.bind i (.obj b) = some A') (hle : A'.le A'') : EA T E W os A'' i = E b := by
  obtain ⟨_, h2, h3⟩ := bind_spec h
  by_cases hi : GB ≤ i
  · rw [EA_ge hi]
    have := (h2 hi).1
    cases this; rfl
  · exact EA_obj (hle _ _ (h3 (by omega))) (by omega)
def tgtOK (E : Emb) (N : Nat) : Tgt → Prop
  | .nil => True
  | .obj b => b < GB ∧ b < N
  | .view b o n => (b < GB ∧ b < N) ∧ o + n ≤ (E b).n ∧ n ≤ (E b).lim - o
def AOK (E : Emb) (N : Nat) (A : Asg) : Prop := ∀ i t, A.find i = some t → tgtOK E N t
theorem okId.lt {N b : Nat} (h : okId N b) (hb : b < GB) : b < N := by rcases h with h | h; exact h; omega
theorem bind_AOK {E : Emb} {N : Nat} {A A' : Asg} {i : Nat} {t : Tgt} (h : A.bind i t = some A') (ho : ∀ b, t = .obj b → okId N b) (hv : ∀ b o n, t = .view b o n → okId N b) (ht : ∀ b o n, t = .view b o n → o + n ≤ (E b).n ∧ n ≤ (E b).lim - o) (hA : AOK E N A) : AOK E N A' := by
  rcases bind_form h with ⟨rfl, _⟩ | ⟨h1, h2, rfl, h3, h4⟩
  · exact hA
  · intro j u hj
    rw [find_cons] at hj
    by_cases e : i = j
    · rw [if_pos e] at hj
      cases hj
      cases t with
      | nil => trivial
      | obj b => exact ⟨h3 b rfl, (ho b rfl).lt (h3 b rfl)⟩
      | view b o n => exact ⟨⟨h4 b o n rfl, (hv b o n rfl).lt (h4 b o n rfl)⟩, ht b o n rfl⟩
    · rw [if_neg e] at hj; exact hA _ _ hj
theorem bind_okId {A A' A'' : Asg} {i M : Nat} {t : Tgt} (h : A.bind i t = some A') (hle : A'.le A'') (hk : ∀ i t, A''.find i = some t → i < M) : okId M i := by
  by_cases hi : GB ≤ i
  · exact .inr hi
  · exact .inl (hk i t (hle _ _ ((bind_spec h).2.2 (by omega))))
theorem enc_tail' (ρ : Nat → Nat) : ∀ (s : VS) (m : Bool) (x : s.ty) (l : List Value), s.enc ρ m x l = s.enc ρ m x [] ++ l := by
  intro s
  induction s with
  | agg s ih => intro m x l; cases m <;> simp only [VS.enc]; exact ih false x l; rfl
  | pair a b iha ihb => intro m x l; simp only [VS.enc]; rw [ihb m x.2 l, iha m x.1, iha m x.1 (b.enc ρ m x.2 [])]; simp
  | _ => intro m x l; simp [VS.enc]
theorem slice_ok {E : Emb} {N : Nat} {ad : Addr} {n c : Nat} {v' : Value} (h : VR E N (.slice (some ad) n c) v') : okId N ad.block := by
  cases h with
  | scal _ hs => simp [scalar] at hs
  | wsl _ _ h => exact h
  | wsl0 _ _ h => exact h
  | gsl _ _ _ _ _ h => exact h
  | gsl0 _ _ _ h => exact h
  | fsl _ _ _ _ h => exact h
theorem slit_ok {E : Emb} {N : Nat} {ad : Addr} {n c : Nat} {v' : Value} (h : VR E N (.slice (some ad) n c) v') : ad.spot = none ∨ ad.spot = some 0 := by
  cases h with
  | scal _ hs => simp [scalar] at hs
  | wsl => exact .inl rfl
  | wsl0 => exact .inl rfl
  | gsl => exact .inr rfl
  | gsl0 => exact .inr rfl
  | fsl => exact .inl rfl
theorem dec_sound {E : Emb} {N W M : Nat} {os : List OS} : ∀ (s : VS) (m : Bool) (l l' : List Value) (A : Asg) (x : s.ty) (r : List Value) (A' : Asg), s.dec m l A = some (x, r, A') → PW E N l l' →
    A.le A' ∧ (AOK E N A → AOK E N A') ∧ ∃ c' r', l' = c' ++ r' ∧ PW E N r r' ∧ ∀ A'', A'.le A'' → (∀ i t, A''.find i = some t → i < M) → PW (EA T E W os A'') M (s.enc rid m x []) c' := by
  intro s
  induction s with
  | any =>
    intro m l l' A x r A' h hl
    cases l with
    | nil => simp [VS.dec] at h
    | cons v l =>
      obtain ⟨u, r', rfl, hu, hr⟩ := hl.inv_cons
      simp [VS.dec] at h; obtain ⟨rfl, rfl⟩ := h
      exact ⟨.refl _, fun h => h, [u], r', rfl, hr, fun A'' _ _ => .cons (.any u) .nil⟩
  | unit =>
    intro m l l' A x r A' h hl
    simp [VS.dec] at h; obtain ⟨rfl, rfl⟩ := h
    exact ⟨.refl _, fun h => h, [], l', rfl, hl, fun A'' _ _ => .nil⟩
  | bool =>
    intro m l l' A x r A' h hl
    cases l with
    | nil => simp [VS.dec] at h
    | cons v l =>
      obtain ⟨u, r', rfl, hu, hr⟩ := hl.inv_cons
      cases v <;> simp [VS.dec] at h
      obtain ⟨rfl, rfl, rfl⟩ := h
      have := hu.scalar_eq rfl; subst this
      exact ⟨.refl _, fun h => h, [_], r', rfl, hr, fun A'' _ _ => .cons (.scal _ rfl) .nil⟩
  | str =>
    intro m l l' A x r A' h hl
    cases l with
    | nil => simp [VS.dec] at h
    | cons v l =>
      obtain ⟨u, r', rfl, hu, hr⟩ := hl.inv_cons
      cases v <;> simp [VS.dec] at h
      obtain ⟨rfl, rfl, rfl⟩ := h
      have := hu.scalar_eq rfl; subst this
      exact ⟨.refl _, fun h => h, [_], r', rfl, hr, fun A'' _ _ => .cons (.scal _ rfl) .nil⟩
  | int k =>
    intro m l l' A x r A' h hl
    cases l with
    | nil => simp [VS.dec] at h
    | cons v l =>
      obtain ⟨u, r', rfl, hu, hr⟩ := hl.inv_cons
      cases v <;> simp [VS.dec] at h
      rename_i k' n
      cases hk : beqKind k' k with
      | false => simp [hk] at h
      | true =>
        have := beqKind_eq hk; subst this
        simp [hk] at h
        obtain ⟨rfl, rfl, rfl⟩ := h
        have := hu.scalar_eq rfl; subst this
        exact ⟨.refl _, fun h => h, [_], r', rfl, hr, fun A'' _ _ => .cons (.scal _ rfl) .nil⟩
  | nilp =>
    intro m l l' A x r A' h hl
    cases l with
    | nil => simp [VS.dec] at h
    | cons v l =>
      obtain ⟨u, r', rfl, hu, hr⟩ := hl.inv_cons
      simp only [VS.dec] at h
      split at h <;> simp at h
      obtain ⟨rfl, rfl⟩ := h
      have : u = .pointer none := by cases hu; rfl
      subst this
      exact ⟨.refl _, fun h => h, [_], r', rfl, hr, fun A'' _ _ => .cons (.scal _ rfl) .nil⟩
  | nilf =>
    intro m l l' A x r A' h hl
    cases l with
    | nil => simp [VS.dec] at h
    | cons v l =>
      obtain ⟨u, r', rfl, hu, hr⟩ := hl.inv_cons
      simp only [VS.dec] at h
      split at h <;> simp at h
      obtain ⟨rfl, rfl⟩ := h
      have : u = .nilFunc := by cases hu; rfl
      subst this
      exact ⟨.refl _, fun h => h, [_], r', rfl, hr, fun A'' _ _ => .cons (.scal _ rfl) .nil⟩
  | nili =>
    intro m l l' A x r A' h hl
    cases l with
    | nil => simp [VS.dec] at h
    | cons v l =>
      obtain ⟨u, r', rfl, hu, hr⟩ := hl.inv_cons
      simp only [VS.dec] at h
      split at h <;> simp at h
      obtain ⟨rfl, rfl⟩ := h
      have : u = .nilIface := by cases hu; rfl
      subst this
      exact ⟨.refl _, fun h => h, [_], r', rfl, hr, fun A'' _ _ => .cons (.scal _ rfl) .nil⟩
  | ptr i o =>
    intro m l l' A x r A' h hl
    cases l with
    | nil => simp [VS.dec] at h
    | cons v l =>
      obtain ⟨u, r', rfl, hu, hr⟩ := hl.inv_cons
      simp only [VS.dec] at h
      split at h
      · rename_i b o'
        split at h
        · rename_i e
          have e := Nat.eq_of_beq_eq_true e
          subst e
          split at h
          · rename_i A1 hb
            simp at h; obtain ⟨rfl, rfl⟩ := h
            have hok := ptr_ok hu
            have := ptr_inv hu; subst this
            refine ⟨(bind_spec hb).1, bind_AOK hb (fun b e => by cases e; exact hok) (fun b o n e => by cases e) (fun b o n e => by cases e), [_], r', rfl, hr, fun A'' hle hk => ?_⟩
            have he := bind_EA (T := T) (E := E) (W := W) (os := os) hb hle
            refine .cons ?_ .nil
            have := VR.ptr (E := EA T E W os A'') (N := M) ⟨i, o', none⟩ (bind_okId hb hle hk)
            simpa [locA, he, rid] using this
          · cases h
        · cases h
      · cases h
  | eptr i j =>
    intro m l l' A x r A' h hl
    cases l with
    | nil => simp [VS.dec] at h
    | cons v l =>
      obtain ⟨u, r', rfl, hu, hr⟩ := hl.inv_cons
      simp only [VS.dec] at h
      split at h
      · rename_i b n j'
        split at h
        · rename_i e
          have e := Nat.eq_of_beq_eq_true e
          subst e
          split at h
          · rename_i A1 hb
            simp at h; obtain ⟨rfl, rfl, rfl⟩ := h
            have hok := ptr_ok hu
            have := ptr_inv hu; subst this
            refine ⟨(bind_spec hb).1, bind_AOK hb (fun b e => by cases e; exact hok) (fun b o n e => by cases e) (fun b o n e => by cases e), [_], r', rfl, hr, fun A'' hle hk => ?_⟩
            have he := bind_EA (T := T) (E := E) (W := W) (os := os) hb hle
            refine .cons ?_ .nil
            have := VR.ptr (E := EA T E W os A'') (N := M) ⟨i, n, some j'⟩ (bind_okId hb hle hk)
            simpa [locA, he, rid] using this
          · cases h
        · cases h
      · cases h
  | sl i =>
    intro m l l' A x r A' h hl
    cases l with
    | nil => simp [VS.dec] at h
    | cons v l =>
      obtain ⟨u, r', rfl, hu, hr⟩ := hl.inv_cons
      simp only [VS.dec] at h
      split at h
      · split at h
        · rename_i A1 hb
          simp at h; obtain ⟨rfl, rfl⟩ := h
          obtain ⟨rfl, rfl, rfl⟩ := nilsl_inv hu
          refine ⟨(bind_spec hb).1, bind_AOK hb (fun b e => by cases e) (fun b o n e => by cases e) (fun b o n e => by cases e), [_], r', rfl, hr, fun A'' hle hk => ?_⟩
          have hi : i < GB := by
            by_cases hg : GB ≤ i
            · have := (bind_spec hb).2.1 hg; cases this.1
            · omega
          have hf := hle _ _ ((bind_spec hb).2.2 hi)
          refine .cons (.wsl0 i none (bind_okId hb hle hk) ?_) .nil
          unfold EA; rw [if_neg (by omega), hf]
        · cases h
      · rename_i b o n c
        split at h
        · rename_i e
          have e := Nat.eq_of_beq_eq_true e
          subst e
          split at h
          · rename_i e2
            have e2 := Nat.eq_of_beq_eq_true e2
            subst e2
            split at h
            · rename_i A1 hb
              simp at h; obtain ⟨rfl, rfl⟩ := h
              refine ⟨(bind_spec hb).1, bind_AOK hb (fun b e => by cases e; exact slice_ok hu) (fun b o n e => by cases e) (fun b o n e => by cases e), [_], r', rfl, hr, fun A'' hle hk => ?_⟩
              have he := bind_EA (T := T) (E := E) (W := W) (os := os) hb hle
              have hid := bind_okId hb hle hk
              have hc : c = 0 := by
                cases hu with
                | scal _ hs => simp [scalar] at hs
                | wsl => rfl
                | wsl0 => rfl
                | fsl _ _ _ _ _ h _ => exact absurd rfl h
              subst hc
              obtain ⟨_, hh⟩ := wsl_inv hu
              refine .cons ?_ .nil
              rcases hh with ⟨c', h1, h2, rfl⟩ | ⟨hz, y, rfl⟩
              · have := VR.wsl (E := EA T E W os A'') (N := M) i c' hid (by rw [he]; exact h1) (by rw [he]; exact h2)
                rw [he] at this; exact this
              · exact .wsl0 i y hid (by rw [he]; exact hz)
            · cases h
          · cases h
        · cases h
      · rename_i b o j n c
        split at h
        · rename_i A1 hb
          simp at h; obtain ⟨rfl, rfl⟩ := h
          have hj : j = 0 := by rcases slit_ok hu with e | e <;> simp at e; exact e
          subst hj
          obtain ⟨_, hon, hnc, hoc, hh⟩ := gsl_inv hu
          refine ⟨(bind_spec hb).1, bind_AOK hb (fun b e => by cases e) (fun b o n e => by cases e; exact slice_ok hu) (fun b' o' n' e => ?_), [_], r', rfl, hr, fun A'' hle hk => ?_⟩
          · cases e
            refine ⟨hon, ?_⟩
            rcases hh with ⟨c', h1, h2, _⟩ | ⟨hz, _, _⟩ <;> omega
          · have hi : i < GB := by
              by_cases hg : GB ≤ i
              · have := (bind_spec hb).2.1 hg; cases this.1
              · omega
            have hf := hle _ _ ((bind_spec hb).2.2 hi)
            have he : EA T E W os A'' i = ⟨(E b).blk, (E b).base + o * (E b).es, (E b).lim - o, (E b).es, n, (E b).rw⟩ := by unfold EA; rw [if_neg (by omega), hf]
            have hid := bind_okId hb hle hk
            refine .cons ?_ .nil
            rcases hh with ⟨c', h1, h2, rfl⟩ | ⟨hz, hz', y, rfl⟩
            · have := VR.wsl (E := EA T E W os A'') (N := M) i c' hid (by rw [he]; show n ≤ c'; omega) (by rw [he]; show c' ≤ (E b).lim - o; omega)
              rw [he] at this
              simpa [locA, rid] using this
            · exact .wsl0 i y hid (by rw [he]; exact hz)
        · cases h
      · cases h
  | gsl i =>
    intro m l l' A x r A' h hl
    cases l with
    | nil => simp [VS.dec] at h
    | cons v l =>
      obtain ⟨u, r', rfl, hu, hr⟩ := hl.inv_cons
      simp only [VS.dec] at h
      split at h
      · rename_i b o j n c
        split at h
        · rename_i A1 hb
          simp at h; obtain ⟨rfl, rfl, rfl⟩ := h
          have hj : j = 0 := by rcases slit_ok hu with e | e <;> simp at e; exact e
          subst hj
          obtain ⟨_, hon, hnc, hoc, hh⟩ := gsl_inv hu
          refine ⟨(bind_spec hb).1, bind_AOK hb (fun b e => by cases e; exact slice_ok hu) (fun b o n e => by cases e) (fun b o n e => by cases e), [_], r', rfl, hr, fun A'' hle hk => ?_⟩
          have he := bind_EA (T := T) (E := E) (W := W) (os := os) hb hle
          have hid := bind_okId hb hle hk
          refine .cons ?_ .nil
          rcases hh with ⟨c', h1, h2, rfl⟩ | ⟨hz, hz', y, rfl⟩
          · have := VR.gsl (E := EA T E W os A'') (N := M) i o n c c' hid hnc h1 (by rw [he]; exact hoc) (by rw [he]; exact h2)
            simpa [locA, he, rid] using this
          · subst hz; subst hz'
            exact .gsl0 i o y hid (by rw [he]; simpa using hoc)
        · cases h
      · cases h
  | fn f s ih =>
    intro m l l' A x r A' h hl
    cases l with
    | nil => simp [VS.dec] at h
    | cons v l =>
      obtain ⟨u, r', rfl, hu, hr⟩ := hl.inv_cons
      simp only [VS.dec] at h
      split at h
      · rename_i f' first cap
        split at h
        · rename_i e1 e2
          have e1 := Nat.eq_of_beq_eq_true e1
          subst e1
          split at h
          · rename_i y A1 hd
            simp at h; obtain ⟨rfl, rfl, rfl⟩ := h
            obtain ⟨fs', cs', rfl, hf0, hcs⟩ : ∃ fs' cs', u = .func (.func f') fs' cs' ∧ fs' = #[] ∧ PW E N cap.toList cs'.toList := by
              cases hu with
              | scal _ hs => simp [scalar] at hs
              | func _ _ fs' _ cs' h1 h2 h3 h4 =>
                refine ⟨fs', cs', rfl, ?_, ⟨by simpa using h3, fun i v v' hv hv' => h4 i v v' (by simpa using hv) (by simpa using hv')⟩⟩
                have : first = #[] := Array.toList_eq_nil_iff.1 e2
                subst this
                simpa using h1.symm
            subst hf0
            obtain ⟨g1, g2, c', r'', g3, g4, g5⟩ := ih _ _ _ _ _ _ _ hd hcs
            have := g4.inv_nil; subst this
            refine ⟨g1, g2, [_], r', rfl, hr, fun A'' hle hk => .cons ?_ .nil⟩
            have g6 := g5 A'' hle hk
            rw [List.append_nil] at g3
            rw [← g3] at g6
            exact .func _ _ _ _ _ rfl (fun i v v' hv => by simp at hv) (by have := g6.1; simpa using this) (fun i v v' hv hv' => g6.2 i v v' (by simpa using hv) (by simpa using hv'))
          · cases h
        · cases h
      · cases h
  | fnm f s ih =>
    intro m l l' A x r A' h hl
    cases l with
    | nil => simp [VS.dec] at h
    | cons v l =>
      obtain ⟨u, r', rfl, hu, hr⟩ := hl.inv_cons
      simp only [VS.dec] at h
      split at h
      · rename_i f' first cap
        split at h
        · rename_i e1 e2
          have e1 := Nat.eq_of_beq_eq_true e1
          subst e1
          split at h
          · rename_i y A1 hd
            simp at h; obtain ⟨rfl, rfl, rfl⟩ := h
            obtain ⟨fs', cs', rfl, hf0, hcs⟩ : ∃ fs' cs', u = .func (.func f') fs' cs' ∧ cs' = #[] ∧ PW E N first.toList fs'.toList := by
              cases hu with
              | scal _ hs => simp [scalar] at hs
              | func _ _ fs' _ cs' h1 h2 h3 h4 =>
                refine ⟨fs', cs', rfl, ?_, ⟨by simpa using h1, fun i v v' hv hv' => h2 i v v' (by simpa using hv) (by simpa using hv')⟩⟩
                have : cap = #[] := Array.toList_eq_nil_iff.1 e2
                subst this
                simpa using h3.symm
            subst hf0
            obtain ⟨g1, g2, c', r'', g3, g4, g5⟩ := ih _ _ _ _ _ _ _ hd hcs
            have := g4.inv_nil; subst this
            refine ⟨g1, g2, [_], r', rfl, hr, fun A'' hle hk => .cons ?_ .nil⟩
            have g6 := g5 A'' hle hk
            rw [List.append_nil] at g3
            rw [← g3] at g6
            exact .func _ _ _ _ _ (by have := g6.1; simpa using this) (fun i v v' hv hv' => g6.2 i v v' (by simpa using hv) (by simpa using hv')) rfl (fun i v v' hv => by simp at hv)
          · cases h
        · cases h
      · cases h
  | iface t s ih =>
    intro m l l' A x r A' h hl
    cases l with
    | nil => simp [VS.dec] at h
    | cons v l =>
      obtain ⟨u, r', rfl, hu, hr⟩ := hl.inv_cons
      simp only [VS.dec] at h
      split at h
      · rename_i t' p
        split at h
        · rename_i e1
          have e1 := Nat.eq_of_beq_eq_true e1
          subst e1
          split at h
          · rename_i y A1 hd
            simp at h; obtain ⟨rfl, rfl, rfl⟩ := h
            obtain ⟨p', rfl, hp⟩ : ∃ p', u = .iface t' p' ∧ VR E N p p' := by
              cases hu with
              | scal _ hs => simp [scalar] at hs
              | iface _ _ p' h => exact ⟨p', rfl, h⟩
            obtain ⟨g1, g2, c', r'', g3, g4, g5⟩ := ih _ _ _ _ _ _ _ hd (.cons hp .nil)
            have := g4.inv_nil; subst this
            rw [List.append_nil] at g3
            subst g3
            refine ⟨g1, g2, [_], r', rfl, hr, fun A'' hle hk => .cons ?_ .nil⟩
            have g6 := g5 A'' hle hk
            obtain ⟨q, hq⟩ : ∃ q, s.enc rid true y [] = [q] := by
              have h1 := g6.1
              generalize s.enc rid true y [] = L at h1
              match L, h1 with
              | [q], _ => exact ⟨q, rfl⟩
            rw [hq] at g6
            obtain ⟨_, _, e, hqv, _⟩ := g6.inv_cons
            cases e
            show VR _ _ (match s.enc rid true y [] with | [v] => .iface t' v | _ => undef) _
            rw [hq]
            exact .iface _ _ _ hqv
          · cases h
        · cases h
      · cases h
  | agg s ih =>
    intro m l l' A x r A' h hl
    cases m with
    | false => simp only [VS.dec] at h; simp only [VS.enc]; exact ih false _ _ _ _ _ _ h hl
    | true =>
      cases l with
      | nil => simp [VS.dec] at h
      | cons v l =>
        obtain ⟨u, r', rfl, hu, hr⟩ := hl.inv_cons
        simp only [VS.dec] at h
        split at h
        · rename_i cs
          split at h
          · rename_i y A1 hd
            simp at h; obtain ⟨rfl, rfl, rfl⟩ := h
            obtain ⟨cs', rfl, hcs⟩ := hu.agg_inv
            obtain ⟨g1, g2, c', r'', g3, g4, g5⟩ := ih _ _ _ _ _ _ _ hd hcs
            have := g4.inv_nil; subst this
            rw [List.append_nil] at g3
            refine ⟨g1, g2, [_], r', rfl, hr, fun A'' hle hk => .cons ?_ .nil⟩
            have g6 := g5 A'' hle hk
            rw [← g3] at g6
            exact VR.agg_mk (cs' := cs'.toList) g6
          · cases h
        · cases h
  | tup s ih =>
    intro m l l' A x r A' h hl
    cases l with
    | nil => simp [VS.dec] at h
    | cons v l =>
      obtain ⟨u, r', rfl, hu, hr⟩ := hl.inv_cons
      simp only [VS.dec] at h
      split at h
      · rename_i cs
        split at h
        · rename_i y A1 hd
          simp at h; obtain ⟨rfl, rfl, rfl⟩ := h
          rcases hu.tup_inv with rfl | ⟨cs', rfl, hcs⟩
          · obtain ⟨g1, g2, c', r'', g3, g4, g5⟩ := ih _ _ _ _ _ _ _ hd (.nil : PW E N [] [])
            refine ⟨g1, g2, [u], r', rfl, hr, fun A'' hle hk => .cons ?_ .nil⟩
            have g6 := g5 A'' hle hk
            have : c' = [] := by simp at g3; exact g3.1
            subst this
            have : s.enc rid true y [] = [] := List.eq_nil_of_length_eq_zero (by simpa using g6.1)
            rw [this]
            exact .any u
          · obtain ⟨g1, g2, c', r'', g3, g4, g5⟩ := ih _ _ _ _ _ _ _ hd hcs
            have := g4.inv_nil; subst this
            rw [List.append_nil] at g3
            refine ⟨g1, g2, [_], r', rfl, hr, fun A'' hle hk => .cons ?_ .nil⟩
            have g6 := g5 A'' hle hk
            rw [← g3] at g6
            exact VR.tup_mk (cs' := cs'.toList) g6
        · cases h
      · cases h
  | pair a b iha ihb =>
    intro m l l' A x r A' h hl
    simp only [VS.dec] at h
    split at h
    · rename_i y l1 A1 h1
      split at h
      · rename_i z l2 A2 h2
        simp at h; obtain ⟨rfl, rfl, rfl⟩ := h
        obtain ⟨f1, f2, c1, r1, f3, f4, f5⟩ := iha _ _ _ _ _ _ _ h1 hl
        obtain ⟨g1, g2, c2, r2, g3, g4, g5⟩ := ihb _ _ _ _ _ _ _ h2 f4
        refine ⟨f1.trans g1, fun h => g2 (f2 h), c1 ++ c2, r2, by rw [f3, g3]; simp, g4, fun A'' hle hk => ?_⟩
        simp only [VS.enc]
        rw [enc_tail']
        exact (f5 A'' (g1.trans hle) hk).append (g5 A'' hle hk)
      · cases h
    · cases h
end
end Go.Proofs.YtlflclfhldghbaaGreatDoor.Ls
end
section
namespace Go.Proofs.YtlflclfhldghbaaGreatDoor.Ls
open Go
section
variable {T : TypeId → VS} {glob : Nat → Option (Ob T)}
def tgtB : Tgt → Option Nat
  | .nil => none
  | .obj b => some b
  | .view b _ _ => some b
theorem castRow_eq {e' e : TypeId} {xs : List (T e').ty} {ys : List (T e).ty} (h : castRow e' e xs = some ys) : ∃ he : e' = e, he ▸ xs = ys := by
  unfold castRow at h
  split at h
  · next he => exact ⟨he, by simpa using h⟩
  · cases h
theorem EA_none {E : Emb} {W : Nat} {os : List OS} {A : Asg} {i : Nat} (h : A.find i = some .nil) (hi : i < GB) : EA T E W os A i = ⟨W, 0, 0, esOf T os i, 0, true⟩ := by
  unfold EA; rw [if_neg (by omega), h]
theorem EA_view {E : Emb} {W : Nat} {os : List OS} {A : Asg} {i b o n : Nat} (h : A.find i = some (.view b o n)) (hi : i < GB) : EA T E W os A i = ⟨(E b).blk, (E b).base + o * (E b).es, (E b).lim - o, (E b).es, n, (E b).rw⟩ := by
  unfold EA; rw [if_neg (by omega), h]
theorem decOb_sound {E : Emb} {H : List (Ob T)} {w : World} {W M : Nat} {os : List OS} (hS : Sim glob E H w) {o : OS} {i : Nat} {A : Asg} {x : o.ty T} {A' : Asg} (h : o.dec glob H (A.find i) A = some (x, A')) (hA : AOK E H.length A) (hi : i < GB) (hos : os[i]? = some o) :
    A.le A' ∧ AOK E H.length A' ∧ ∀ A'', A'.le A'' → (∀ i t, A''.find i = some t → i < M) → ObR (EA T E W os A'') M i w (o.enc rid x) ∧
      (solid0 (EA T E W os A'') i (o.enc rid x) → ∃ t b ob, A''.find i = some t ∧ tgtB t = some b ∧ lookO glob H b = some ob ∧ solid0 E b ob ∧ (solid (EA T E W os A'') i (o.enc rid x) → solid E b ob)) := by
  cases o with
  | dead =>
    simp [OS.dec] at h; subst h
    exact ⟨.refl _, hA, fun A'' _ _ => ⟨trivial, fun hs => hs.elim⟩⟩
  | flat s =>
    simp only [OS.dec] at h
    split at h
    · rename_i b hb
      split at h
      · rename_i cs hlk
        split at h
        · rename_i y A1 hd
          simp at h; obtain ⟨rfl, rfl⟩ := h
          obtain ⟨c, e, hc, hsz, hcs⟩ := hS.ob b _ hlk
          obtain ⟨l', hl', hpw⟩ : ∃ l', (∀ j, j < cs.length → c[(E b).base + j]? = l'[j]?) ∧ PW E H.length cs l' := by
            refine ⟨(List.range cs.length).map fun j => c.getD ((E b).base + j) undef, fun j hj => ?_, by simp, fun j v v' hv hv' => ?_⟩
            · obtain ⟨v', h1, _⟩ := hcs j _ (List.getElem?_eq_getElem hj)
              simp [hj, h1]
            · have hj := (List.getElem?_eq_some_iff.1 hv).1
              obtain ⟨u, h1, h2⟩ := hcs j v hv
              simp [hj, h1] at hv'
              subst hv'; exact h2
          obtain ⟨g1, g2, c', r', g3, g4, g5⟩ := dec_sound (T := T) (W := W) (M := M) (os := os) s false cs l' A y [] _ hd hpw
          have := g4.inv_nil; subst this
          rw [List.append_nil] at g3; subst g3
          refine ⟨g1, g2 hA, fun A'' hle hk => ⟨?_, fun _ => ⟨_, b, _, hle _ _ (g1 _ _ hb), rfl, hlk, trivial, fun _ => trivial⟩⟩⟩
          have g6 := g5 A'' hle hk
          have he : EA T E W os A'' i = E b := EA_obj (hle _ _ (g1 _ _ hb)) hi
          have hlen : (s.enc rid false y []).length = cs.length := by rw [g6.1, ← hpw.1]
          refine ⟨c, e, by rw [he]; exact hc, by rw [he, hlen]; exact hsz, fun j v hv => ?_⟩
          obtain ⟨v', h1, h2⟩ := g6.get hv
          have hj : j < cs.length := by rw [← hlen]; exact (List.getElem?_eq_some_iff.1 hv).1
          exact ⟨v', by rw [he, hl' j hj]; exact h1, h2⟩
        · cases h
      · cases h
    · cases h
  | row wr e =>
    have hes : esOf T os i = (T e).size := by simp [esOf, hos]
    simp only [OS.dec] at h
    split at h
    · rename_i b hb
      split at h
      · rename_i w' e' xs hlk
        split at h
        · rename_i ys hcast hw
          simp at h; obtain ⟨rfl, rfl⟩ := h
          obtain ⟨he, hxy⟩ := castRow_eq hcast
          subst he
          simp at hxy; subst hxy
          refine ⟨.refl _, hA, fun A'' hle hk => ?_⟩
          have hE : EA T E W os A'' i = E b := EA_obj (hle _ _ hb) hi
          obtain ⟨h1, h2, h3, h4, h5⟩ := hS.ob b _ hlk
          refine ⟨⟨h1, by rw [hE]; exact h2, by rw [hE]; exact h3, by rw [hE]; exact h4, ?_⟩, fun hs => ⟨_, b, _, hle _ _ hb, rfl, hlk, by
            show (E b).lim ≠ 0
            have : (EA T E W os A'' i).lim ≠ 0 := hs
            rw [hE] at this; exact this, fun hs2 => by
            have : (EA T E W os A'' i).lim ≠ 0 ∧ (EA T E W os A'' i).rw = true := hs2
            rw [hE] at this; exact this⟩⟩
          rw [hE]
          rcases h5 with h5 | ⟨c, t, fr, q1, q2, q3⟩
          · exact .inl h5
          · refine .inr ⟨c, t, fr, q1, fun hwr => q2 ?_, q3⟩
            subst hwr
            cases w' <;> simp [wOk] at hw ⊢
        · cases h
      · cases h
    · rename_i b o n hb
      split at h
      · rename_i w' e' xs hlk
        split at h
        · rename_i ys hcast
          simp at h; obtain ⟨rfl, rfl⟩ := h
          obtain ⟨he, hxy⟩ := castRow_eq hcast
          subst he
          simp at hxy; subst hxy
          refine ⟨.refl _, hA, fun A'' hle hk => ?_⟩
          have hE := EA_view (T := T) (E := E) (W := W) (os := os) (hle _ _ hb) hi
          obtain ⟨h1, h2, h3, h4, h5⟩ := hS.ob b _ hlk
          obtain ⟨_, t1, t2⟩ : (b < GB ∧ b < H.length) ∧ o + n ≤ (E b).n ∧ n ≤ (E b).lim - o := hA _ _ hb
          have hlen : ((xs.drop o).take n).length = n := by simp; omega
          refine ⟨⟨h1, by rw [hE]; exact h2, by rw [hE]; exact hlen.symm, by rw [hE]; exact t2, ?_⟩, fun hs => ⟨_, b, _, hle _ _ hb, rfl, hlk, by
            show (E b).lim ≠ 0
            have : (EA T E W os A'' i).lim ≠ 0 := hs
            rw [hE] at this
            simp at this
            omega, fun hs2 => by
            have : (EA T E W os A'' i).lim ≠ 0 ∧ (EA T E W os A'' i).rw = true := hs2
            rw [hE] at this
            exact ⟨by have := this.1; simp at this; omega, this.2⟩⟩⟩
          rw [hE]
          simp only
          by_cases hz : (E b).lim - o = 0
          · exact .inl hz
          · rcases h5 with h5 | ⟨c, t, fr, q1, q2, q3, q4⟩
            · omega
            · refine .inr ⟨c, t, fr, q1, (fun hwr => by cases hwr), ?_, fun j v hv => ?_⟩
              · rw [hlen, Nat.add_assoc, ← Nat.add_mul]
                exact Nat.le_trans (Nat.add_le_add_left (Nat.mul_le_mul_right _ (by omega)) _) q3
              · rw [Nat.add_assoc, h2]
                refine q4 _ _ ?_
                have e1 : encAll (T e') xs = encAll (T e') (xs.take o) ++ (encAll (T e') ((xs.drop o).take n) ++ encAll (T e') ((xs.drop o).drop n)) := by
                  rw [← encAll_append, ← encAll_append, List.take_append_drop, List.take_append_drop]
                have e2 : (encAll (T e') (xs.take o)).length = o * (T e').size := by rw [encAll_len, List.length_take, Nat.min_eq_left (by omega)]
                rw [e1, List.getElem?_append_right (by omega), e2, Nat.add_sub_cancel_left]
                rw [List.getElem?_append_left (List.getElem?_eq_some_iff.1 hv).1]; exact hv
        · cases h
      · cases h
    · rename_i hb
      split at h
      · rename_i hpl
        simp at h; obtain ⟨rfl, rfl⟩ := h
        refine ⟨.refl _, hA, fun A'' hle hk => ?_⟩
        have hE := EA_none (T := T) (E := E) (W := W) (os := os) (hle _ _ hb) hi
        refine ⟨⟨hpl, by rw [hE]; exact hes, by rw [hE]; rfl, by rw [hE]; exact Nat.le_refl _, .inl (by rw [hE])⟩, fun hs => ?_⟩
        have : (EA T E W os A'' i).lim ≠ 0 := hs
        rw [hE] at this
        exact absurd rfl this
      · cases h
    · cases h
theorem decO_sound {E : Emb} {H : List (Ob T)} {w : World} {W M : Nat} {os : List OS} (hS : Sim glob E H w) : ∀ (l : List OS) (i : Nat) (A : Asg) (y : tysO T l) (A' : Asg), decO glob H l i A = some (y, A') → AOK E H.length A → i + l.length ≤ GB → (∀ k, k < l.length → os[i + k]? = l[k]?) →
    A.le A' ∧ AOK E H.length A' ∧ ∀ A'', A'.le A'' → (∀ i t, A''.find i = some t → i < M) → ∀ k ob, (encO rid l y)[k]? = some ob → ObR (EA T E W os A'') M (i + k) w ob ∧
      (solid0 (EA T E W os A'') (i + k) ob → ∃ t b ob', A''.find (i + k) = some t ∧ tgtB t = some b ∧ lookO glob H b = some ob' ∧ solid0 E b ob' ∧ (solid (EA T E W os A'') (i + k) ob → solid E b ob'))
  | [], i, A, y, A', h, hA, _, _ => by
    simp [decO] at h; subst h
    exact ⟨.refl _, hA, fun A'' _ _ k ob hk => by simp [encO] at hk⟩
  | o :: r, i, A, y, A', h, hA, hle, hos => by
    simp only [decO] at h
    split at h
    · rename_i x A1 h1
      split at h
      · rename_i z A2 h2
        simp at h; obtain ⟨rfl, rfl⟩ := h
        simp at hle
        obtain ⟨f1, f2, f3⟩ := decOb_sound (W := W) (M := M) hS h1 hA (by omega) (by have := hos 0 (by simp); simpa using this)
        obtain ⟨g1, g2, g3⟩ := decO_sound (W := W) (M := M) (os := os) hS r (i + 1) A1 z A2 h2 f2 (by omega) (fun k hk => by
          have := hos (k + 1) (by simp; omega)
          rw [show i + 1 + k = i + (k + 1) by omega, this]; simp)
        refine ⟨f1.trans g1, g2, fun A'' hA'' hk k ob hob => ?_⟩
        cases k with
        | zero => simp [encO] at hob; subst hob; exact f3 A'' (g1.trans hA'') hk
        | succ k =>
          have := g3 A'' hA'' hk k ob (by simpa [encO] using hob)
          rwa [show i + 1 + k = i + (k + 1) by omega] at this
      · cases h
    · cases h
theorem encO_len : ∀ (l : List OS) (y : tysO T l), (encO rid l y).length = l.length
  | [], _ => rfl
  | o :: r, y => by simp [encO, encO_len r]
theorem find_mem {A : Asg} {i b : Nat} {t : Tgt} (hf : A.find i = some t) (hb : tgtB t = some b) : b ∈ tgtIds A := by
  induction A with
  | nil => simp [Asg.find] at hf
  | cons p r ih =>
    obtain ⟨j, u⟩ := p
    rw [find_cons] at hf
    by_cases e : j = i
    · rw [if_pos e] at hf
      cases hf
      cases t <;> simp [tgtB] at hb <;> subst hb <;> simp [tgtIds]
    · rw [if_neg e] at hf
      have := ih hf
      cases u <;> simp [tgtIds, this]
theorem nodup_tgt : ∀ {A : Asg}, nodupN (tgtIds A) = true → ∀ i j t u b, A.find i = some t → A.find j = some u → tgtB t = some b → tgtB u = some b → i = j
  | [], _ => fun i j t u b h => by simp [Asg.find] at h
  | (k, t0) :: r, h => by
    intro i j t u b hi hj ht hu
    rw [find_cons] at hi hj
    have hr : nodupN (tgtIds r) = true ∧ ∀ c, tgtB t0 = some c → c ∉ tgtIds r := by
      cases t0 with
      | nil => exact ⟨h, fun c hc => by simp [tgtB] at hc⟩
      | obj c =>
        simp only [tgtIds, nodupN] at h
        cases hm : memN c (tgtIds r) with
        | true => simp [hm] at h
        | false => simp [hm] at h; exact ⟨h, fun d hd => by simp [tgtB] at hd; subst hd; exact memN_false hm⟩
      | view c _ _ =>
        simp only [tgtIds, nodupN] at h
        cases hm : memN c (tgtIds r) with
        | true => simp [hm] at h
        | false => simp [hm] at h; exact ⟨h, fun d hd => by simp [tgtB] at hd; subst hd; exact memN_false hm⟩
    by_cases e1 : k = i
    · rw [if_pos e1] at hi
      cases hi
      by_cases e2 : k = j
      · exact e1.symm.trans e2
      · rw [if_neg e2] at hj
        exact absurd (find_mem hj hu) (hr.2 b ht)
    · rw [if_neg e1] at hi
      by_cases e2 : k = j
      · rw [if_pos e2] at hj
        cases hj
        exact absurd (find_mem hi ht) (hr.2 b hu)
      · rw [if_neg e2] at hj
        exact nodup_tgt hr.1 i j t u b hi hj ht hu
theorem keysOk_lt {M : Nat} : ∀ {A : Asg}, keysOk M A = true → ∀ i t, A.find i = some t → i < M
  | [], _ => fun i t h => by simp [Asg.find] at h
  | (k, u) :: r, h => by
    intro i t hf
    simp [keysOk] at h
    rw [find_cons] at hf
    by_cases e : k = i
    · subst e; exact blt_lt (by simpa using h.1)
    · rw [if_neg e] at hf
      exact keysOk_lt h.2 i t hf
theorem sim_EA {E : Emb} {H : List (Ob T)} {w : World} {os : List OS} {y : tysO T os} {A0 A : Asg} (hS : Sim glob E H w) (h : decO glob H os 0 A0 = some (y, A)) (hA : AOK E H.length A0) (hn : nodupN (tgtIds A) = true) (hk : keysOk os.length A = true) (hle : os.length ≤ GB) :
    Sim glob (EA T E w.heap.size os A) (encO rid os y) w ∧ AOK E H.length A ∧ A0.le A ∧
    ∀ k, live0 (EA T E w.heap.size os A) (encO rid os y) k → k < GB ∧ ∃ t b, A.find k = some t ∧ tgtB t = some b ∧ b < GB ∧ live0 E H b ∧ (live (EA T E w.heap.size os A) (encO rid os y) k → live E H b) ∧ (EA T E w.heap.size os A k).blk = (E b).blk := by
  obtain ⟨g1, g2, g3⟩ := decO_sound (W := w.heap.size) (M := os.length) (os := os) hS os 0 A0 y A h hA (by omega) (fun k _ => by simp)
  have hlen := encO_len os y
  have look : ∀ j ob, lookO glob (encO rid os y) j = some ob → (GB ≤ j ∧ glob (j - GB) = some ob) ∨ (j < os.length ∧ (encO rid os y)[j]? = some ob) := by
    intro j ob hj
    by_cases hg : GB ≤ j
    · rw [lookO_ge hg] at hj; exact .inl ⟨hg, hj⟩
    · rw [lookO_lt (by omega)] at hj
      exact .inr ⟨by rw [← hlen]; exact (List.getElem?_eq_some_iff.1 hj).1, hj⟩
  have look' : ∀ j, GB ≤ j → ∀ H' : List (Ob T), lookO glob H' j = glob (j - GB) := fun j hj H' => lookO_ge hj
  have main := fun k ob hk' => g3 A (.refl _) (keysOk_lt hk) k ob hk'
  refine ⟨⟨by rw [hlen]; exact hle, ?_, ?_, ?_, hS.gok⟩, g2, g1, ?_⟩
  · intro j ob hj
    rw [hlen]
    rcases look j ob hj with ⟨hg, hj'⟩ | ⟨hl, hj'⟩
    · have := hS.ob j ob (by rw [lookO_ge hg]; exact hj')
      have e := EA_ge (T := T) (E := E) (W := w.heap.size) (os := os) (A := A) hg
      cases ob with
      | dead => trivial
      | flat cs =>
        obtain ⟨c, t, q1, q2, q3⟩ := this
        refine ⟨c, t, by rw [e]; exact q1, by rw [e]; exact q2, fun i v hv => ?_⟩
        obtain ⟨v', r1, r2⟩ := q3 i v hv
        have hsc := hS.gok _ _ hj' v (List.mem_of_getElem? hv)
        refine ⟨v', by rw [e]; exact r1, ?_⟩
        have : v' = v := by
          cases r2 <;> first | rfl | (simp [scalar, undef] at hsc)
        rw [this]; exact .scal v hsc
      | row wr ty xs =>
        obtain ⟨q1, q2, q3, q4, q5⟩ := this
        exact ⟨q1, by rw [e]; exact q2, by rw [e]; exact q3, by rw [e]; exact q4, by rw [e]; exact q5⟩
    · have := (main j ob hj').1
      simpa using this
  · intro i j oi oj hij hi hj hsi hsj
    have back : ∀ k ok, lookO glob (encO rid os y) k = some ok → solid0 (EA T E w.heap.size os A) k ok →
        (GB ≤ k ∧ lookO glob H k = some ok ∧ solid0 E k ok ∧ (solid (EA T E w.heap.size os A) k ok → solid E k ok) ∧ (EA T E w.heap.size os A k).blk = (E k).blk) ∨
        (k < GB ∧ ∃ t b ob', A.find k = some t ∧ tgtB t = some b ∧ lookO glob H b = some ob' ∧ solid0 E b ob' ∧ (solid (EA T E w.heap.size os A) k ok → solid E b ob') ∧ b < GB ∧ (EA T E w.heap.size os A k).blk = (E b).blk) := by
      intro k ok hk' hs
      rcases look k ok hk' with ⟨hg, hk2⟩ | ⟨hl, hk2⟩
      · left
        exact ⟨hg, by rw [lookO_ge hg]; exact hk2, solid0_eq (EA_ge hg) hs, solid_eq (EA_ge hg), by rw [EA_ge hg]⟩
      · right
        have hkg : k < GB := by omega
        obtain ⟨t, b, ob', e1, e2, e3, e4, e5⟩ := (main k ok hk2).2 (by simpa using hs)
        simp at e1
        have ht := g2 _ _ e1
        refine ⟨hkg, t, b, ob', e1, e2, e3, e4, fun h => e5 (by simpa using h), ?_, ?_⟩
        · cases t <;> simp [tgtB] at e2 <;> subst e2
          · exact ht.1
          · exact ht.1.1
        · cases t <;> simp [tgtB] at e2 <;> subst e2
          · rw [EA_obj e1 hkg]
          · rw [EA_view e1 hkg]
    rcases back i oi hi hsi with ⟨i1, i2, i3, _, i4⟩ | ⟨i1, ti, bi, obi, i2, i3, i4, i5, _, i6, i7⟩ <;> rcases back j oj hj hsj.to0 with ⟨j1, j2, _, j3, j4⟩ | ⟨j1, tj, bj, obj, j2, j3, j4, _, j5, j6, j7⟩
    · rw [i4, j4]; exact hS.sep i j oi oj hij i2 j2 i3 (j3 hsj)
    · rw [i4, j7]; exact hS.sep i bj oi obj (by omega) i2 j4 i3 (j5 hsj)
    · rw [i7, j4]; exact hS.sep bi j obi oj (by omega) i4 j2 i5 (j3 hsj)
    · rw [i7, j7]
      refine hS.sep bi bj obi obj (fun e => ?_) i4 j4 i5 (j5 hsj)
      subst e
      exact hij (nodup_tgt hn i j ti tj bi i2 j2 i3 j3)
  · intro j hj
    rw [EA_ge hj]; exact hS.glo j hj
  · rintro k ⟨ok, hk2, hs⟩
    have hkl : k < os.length := by rw [← hlen]; exact (List.getElem?_eq_some_iff.1 hk2).1
    have hkg : k < GB := by omega
    obtain ⟨t, b, ob', e1, e2, e3, e5, e4⟩ := (main k ok hk2).2 (by simpa using hs)
    simp at e1
    have ht := g2 _ _ e1
    have hb : b < GB := by
      cases t <;> simp [tgtB] at e2 <;> subst e2
      · exact ht.1
      · exact ht.1.1
    refine ⟨hkg, t, b, e1, e2, hb, ⟨ob', by rw [← lookO_lt (glob := glob) hb]; exact e3, e5⟩, ?_, ?_⟩
    · rintro ⟨ok', hk3, hs3⟩
      obtain rfl : ok' = ok := Option.some.inj (hk3.symm.trans hk2)
      exact ⟨ob', by rw [← lookO_lt (glob := glob) hb]; exact e3, e4 (by simpa using hs3)⟩
    cases t <;> simp [tgtB] at e2 <;> subst e2
    · rw [EA_obj e1 hkg]
    · rw [EA_view e1 hkg]
end
end Go.Proofs.YtlflclfhldghbaaGreatDoor.Ls
end
section
namespace Go.Proofs.YtlflclfhldghbaaGreatDoor.Ls
open Go
section
variable {T : TypeId → VS} {cx : Cx T}
theorem effOk_spec : ∀ {ef : List Eff} {hp : List OS}, effOk ef hp = true → ef.length = hp.length ∧ ∀ (p : Nat) (e : TypeId) (x : Eff), ef[p]? = some x → x ≠ .keep → hp[p]? ≠ some (.row false e)
  | [], [], _ => ⟨rfl, fun p e x h => by simp at h⟩
  | [], _ :: _, h => by simp [effOk] at h
  | a :: r, [], h => by cases a <;> simp [effOk] at h
  | a :: r, o :: s, h => by
    have hr : effOk r s = true ∧ (a ≠ .keep → ∀ e, o ≠ .row false e) := by
      cases a <;> cases o <;> (try rename_i w e; cases w) <;> simp_all [effOk]
    have ih := effOk_spec hr.1
    refine ⟨by simp [ih.1], fun p e x h1 hx h2 => ?_⟩
    cases p with
    | zero =>
      simp at h1 h2
      subst h1
      exact hr.2 hx e h2
    | succ p => exact ih.2 p e x (by simpa using h1) hx (by simpa using h2)
def stays (ef : List Eff) (p : Nat) : Prop := ∃ e, ef[p]? = some e ∧ e ≠ .kill
theorem asg0_find : ∀ (ef : List Eff) (i p : Nat) (t : Tgt), (asg0 i ef).find p = some t ↔ (t = .obj p ∧ i ≤ p ∧ stays ef (p - i))
  | [], i, p, t => by simp [asg0, Asg.find, stays]
  | e :: r, i, p, t => by
    have ih := asg0_find r (i + 1) p t
    have step : i + 1 ≤ p → (stays (e :: r) (p - i) ↔ stays r (p - (i + 1))) := by
      intro h
      unfold stays
      rw [show p - i = (p - (i + 1)) + 1 by omega]; simp
    have zero : p = i → (stays (e :: r) (p - i) ↔ e ≠ .kill) := by
      intro h; subst h; simp [stays]
    cases e with
    | kill =>
      simp only [asg0]
      rw [ih]
      constructor
      · rintro ⟨h1, h2, h3⟩; exact ⟨h1, by omega, (step h2).2 h3⟩
      · rintro ⟨h1, h2, h3⟩
        by_cases h : p = i
        · exact absurd rfl ((zero h).1 h3)
        · exact ⟨h1, by omega, (step (by omega)).1 h3⟩
    | keep =>
      simp only [asg0, find_cons]
      by_cases h : i = p
      · rw [if_pos h]
        subst h
        simp only [Option.some.injEq]
        constructor
        · intro h; exact ⟨h.symm, Nat.le_refl _, (zero rfl).2 (by simp)⟩
        · intro h; exact h.1.symm
      · rw [if_neg h, ih]
        constructor
        · rintro ⟨h1, h2, h3⟩; exact ⟨h1, by omega, (step h2).2 h3⟩
        · rintro ⟨h1, h2, h3⟩; exact ⟨h1, by omega, (step (by omega)).1 h3⟩
    | upd =>
      simp only [asg0, find_cons]
      by_cases h : i = p
      · rw [if_pos h]
        subst h
        simp only [Option.some.injEq]
        constructor
        · intro h; exact ⟨h.symm, Nat.le_refl _, (zero rfl).2 (by simp)⟩
        · intro h; exact h.1.symm
      · rw [if_neg h, ih]
        constructor
        · rintro ⟨h1, h2, h3⟩; exact ⟨h1, by omega, (step h2).2 h3⟩
        · rintro ⟨h1, h2, h3⟩; exact ⟨h1, by omega, (step (by omega)).1 h3⟩
theorem asg0_spec (ef : List Eff) (p : Nat) (t : Tgt) : (asg0 0 ef).find p = some t ↔ (t = .obj p ∧ stays ef p) := by
  rw [asg0_find]; simp
structure CR (cx : Cx T) (ef : List Eff) (E0 : Emb) (w0 : World) (H0 : List (Ob T)) (G : List Nat) (E : Emb) (st : St T) (a : Act) (w : World) : Prop where
  str : StR cx E st a w
  par : ∀ p, stays ef p → E p = E0 p
  frame : ∀ b, b < w0.heap.size → (∀ p, p < ef.length → (¬ stays ef p ∨ p ∈ G ∨ p ∈ st.dirty) → live E0 H0 p → (E0 p).blk ≠ b) → w.heap[b]? = w0.heap[b]?
  loc : ∀ id, id < st.heap.length → ¬ stays ef id → live0 E st.heap id → w0.heap.size ≤ (E id).blk ∨ ∃ p, p < ef.length ∧ (¬ stays ef p ∨ p ∈ G ∨ p ∈ st.dirty) ∧ live E0 H0 p ∧ (E id).blk = (E0 p).blk
  os : w.os = w0.os
  tape : w.tape = w0.tape
  out : w.output = w0.output
  size : w0.heap.size ≤ w.heap.size
  le : ef.length ≤ GB
  pin : ∀ p, stays ef p → p < st.heap.length
  old : ∀ p, stays ef p → (live E st.heap p → live E0 H0 p) ∧ (live0 E st.heap p → live0 E0 H0 p)
  gl : ∀ id, GB ≤ id → E id = E0 id
theorem stays_lt {ef : List Eff} {p : Nat} (h : stays ef p) : p < ef.length := by
  obtain ⟨e, h, _⟩ := h; exact (List.getElem?_eq_some_iff.1 h).1
theorem CR.step {ef : List Eff} {E0 : Emb} {w0 : World} {H0 : List (Ob T)} {G : List Nat} {E : Emb} {st : St T} {a : Act} {w : World} (h : CR cx ef E0 w0 H0 G E st a w) {E' : Emb} {st' : St T} {a' : Act} {w' : World} (hs : Stp cx.glob E st w E' st' w') (hr : StR cx E' st' a' w') : CR cx ef E0 w0 H0 G E' st' a' w' := by
  have more : ∀ p, (¬ stays ef p ∨ p ∈ G ∨ p ∈ st.dirty) → (¬ stays ef p ∨ p ∈ G ∨ p ∈ st'.dirty) := fun p hp => hp.imp (fun h => h) (fun h => h.imp (fun h => h) (hs.mono p))
  refine ⟨hr, fun p hst => (hs.agr p (.inl (h.pin p hst))).trans (h.par p hst), ?_, ?_, hs.os.trans h.os, hs.tape.trans h.tape, hs.out.trans h.out, Nat.le_trans h.size hs.size, h.le, fun p hp => Nat.lt_of_lt_of_le (h.pin p hp) hs.len, fun p hp => ⟨fun hlv => (h.old p hp).1 ((hs.dead p (h.pin p hp)).1 hlv), fun hlv => (h.old p hp).2 ((hs.dead p (h.pin p hp)).2 hlv)⟩, fun id hid => (hs.agr id (.inr hid)).trans (h.gl id hid)⟩
  · intro b hb hT
    rw [hs.frame b (Nat.lt_of_lt_of_le hb h.size) ?_, h.frame b hb (fun p hpl hq hpv => hT p hpl (more p hq) hpv)]
    intro id hid hlt hlv
    by_cases hst : stays ef id
    · rw [h.par id hst]; exact hT id (stays_lt hst) (.inr (.inr hid)) ((h.old id hst).1 hlv)
    · rcases h.loc id hlt hst hlv.to0 with hl | ⟨p, hpl, hq, hpv, he⟩
      · omega
      · rw [he]; exact hT p hpl (more p hq) hpv
  · intro id hid hst hlv
    by_cases hl : id < st.heap.length
    · rw [hs.agr id (.inl hl)]
      rcases h.loc id hl hst ((hs.dead id hl).2 hlv) with hl | ⟨p, hpl, hq, hpv, he⟩
      · exact .inl hl
      · exact .inr ⟨p, hpl, more p hq, hpv, he⟩
    · rcases hs.fresh id (by omega) hid hlv with hf | ⟨d, hd, hdl, hdv, hf⟩
      · exact .inl (Nat.le_trans h.size hf)
      · rw [hf]
        by_cases hds : stays ef d
        · rw [h.par d hds]; exact .inr ⟨d, stays_lt hds, .inr (.inr hd), (h.old d hds).1 hdv, rfl⟩
        · rcases h.loc d hdl hds hdv.to0 with hl | ⟨p, hpl, hq, hpv, he⟩
          · exact .inl hl
          · exact .inr ⟨p, hpl, more p hq, hpv, he⟩
theorem CR.of {ef : List Eff} {E0 : Emb} {w0 : World} {H0 : List (Ob T)} {G G' : List Nat} {E : Emb} {st st' : St T} {a : Act} {w : World} (h : CR cx ef E0 w0 H0 G E st a w) (h1 : st'.heap = st.heap) (h2 : st'.env = st.env)
    (h3 : ∀ p, p ∈ G ∨ p ∈ st.dirty → p ∈ G' ∨ p ∈ st'.dirty) : CR cx ef E0 w0 H0 G' E st' a w := by
  refine ⟨⟨by rw [h1]; exact h.str.sim, by rw [h1, h2]; exact h.str.env, h.str.size⟩, h.par, ?_, ?_, h.os, h.tape, h.out, h.size, h.le, by rw [h1]; exact h.pin, by rw [h1]; exact h.old, h.gl⟩
  · intro b hb hT
    exact h.frame b hb (fun p hpl hq hpv => hT p hpl (hq.imp (fun h => h) (h3 p)) hpv)
  · intro id hid hst hlv
    rw [h1] at hid hlv
    rcases h.loc id hid hst hlv with hl | ⟨p, hpl, hq, hpv, he⟩
    · exact .inl hl
    · exact .inr ⟨p, hpl, hq.imp (fun h => h) (h3 p), hpv, he⟩
theorem envVals_rel {E : Emb} {N : Nat} {env : List (Nat × Value)} {a : Act} (h : EnvR E N env a) : ∀ (l : List (Nat × VS)), PW E N (envVals env l) (l.map fun p => a.tmps.getD p.1 undef)
  | [] => .nil
  | (t, s) :: r => .cons (h t) (envVals_rel h r)
theorem zipKeys_rel {E : Emb} {N : Nat} {a : Act} : ∀ (l : List (Nat × VS)) (vs : List Value), PW E N vs (l.map fun p => a.tmps.getD p.1 undef) → EnvR E N (zipKeys l vs) a
  | [], vs, h => by
    intro t
    cases vs <;> exact .any _
  | (k, s) :: r, [], h => by intro t; exact .any _
  | (k, s) :: r, v :: vs, h => by
    obtain ⟨u, r', e, hv, hr⟩ := h.inv_cons
    simp only [List.map_cons, List.cons.injEq] at e
    obtain ⟨rfl, rfl⟩ := e
    intro t
    simp only [zipKeys, getE_cons]
    by_cases ht : k = t
    · subst ht; rw [if_pos rfl]; exact hv
    · rw [if_neg ht]; exact zipKeys_rel r vs hr t
theorem subN_mem : ∀ {l m : List Nat}, subN l m = true → ∀ i ∈ l, i ∈ m
  | [], m, _ => by simp
  | j :: r, m, h => by
    unfold subN at h
    split at h
    · rename_i hm
      intro i hi
      simp at hi
      rcases hi with rfl | hi
      · exact memN_iff.1 hm
      · exact subN_mem h i hi
    · cases h
theorem belowN_mem {m i : Nat} : ∀ {l : List Nat}, i ∈ l → i < m → i ∈ belowN m l
  | j :: r, h, hi => by
    unfold belowN
    simp at h
    split
    · rename_i hb
      rcases h with rfl | h
      · simp
      · simp [belowN_mem h hi]
    · rename_i hb
      rcases h with rfl | h
      · have : Nat.blt i m = true := by simp only [Nat.blt]; exact Nat.ble_eq_true_of_le hi
        rw [this] at hb; cases hb
      · exact belowN_mem h hi
theorem SS_dec_sound {ef : List Eff} {E0 : Emb} {w0 : World} {H0 : List (Ob T)} {G : List Nat} {E : Emb} {st : St T} {a : Act} {w : World} {s : SS} {v : s.ty T} (h : CR cx ef E0 w0 H0 G E st a w) (hd : s.dec cx.glob ef st = some v) (gen : Nat) :
    ∃ E', CR cx ef E0 w0 H0 G E' (s.st gen v) a w := by
  unfold SS.dec at hd
  split at hd
  · rename_i x A1 h1
    split at hd
    · rename_i y A h2
      split at hd
      · rename_i hnk hsub hle
        simp at hnk
        obtain ⟨hn, hk⟩ := hnk
        have hle := Nat.le_of_ble_eq_true hle
        cases hd
        have hkl := keysOk_lt hk
        obtain ⟨d1, d2, c', r', d3, d4, d5⟩ := dec_sound (T := T) (W := w.heap.size) (M := s.heap.length) (os := s.heap) (chain s.temps) true _ _ _ _ _ _ h1 (envVals_rel h.str.env s.temps)
        have := d4.inv_nil; subst this
        rw [List.append_nil] at d3
        have hA0 : AOK E st.heap.length (asg0 0 ef) := by
          intro p t hp
          obtain ⟨rfl, hst⟩ := (asg0_spec ef p t).1 hp
          exact ⟨Nat.lt_of_lt_of_le (stays_lt hst) h.le, h.pin p hst⟩
        obtain ⟨s1, s2, s3, s4⟩ := sim_EA (os := s.heap) h.str.sim h2 (d2 hA0) hn hk hle
        have hlen : (encO rid s.heap y).length = s.heap.length := encO_len _ _
        have hpar : ∀ p, stays ef p → A.find p = some (.obj p) := fun p hst => s3 _ _ (d1 _ _ ((asg0_spec ef p _).2 ⟨rfl, hst⟩))
        have hEp : ∀ p, stays ef p → EA T E w.heap.size s.heap A p = E p := fun p hst => EA_obj (hpar p hst) (Nat.lt_of_lt_of_le (stays_lt hst) h.le)
        have hpw := d5 A s3 hkl
        rw [← d3] at hpw
        refine ⟨EA T E w.heap.size s.heap A, ⟨⟨s1, ?_, h.str.size⟩, fun p hst => (hEp p hst).trans (h.par p hst), ?_, ?_, h.os, h.tape, h.out, h.size, h.le, fun p hst => ?_, fun p hst => ?_, fun id hid => (EA_ge hid).trans (h.gl id hid)⟩⟩
        · show EnvR _ (encO rid s.heap y).length _ a
          rw [hlen]
          exact zipKeys_rel _ _ hpw
        · intro b hb hT
          refine h.frame b hb (fun p hpl hq hpv => hT p hpl (hq.imp (fun h => h) (fun hq => hq.imp (fun h => h) (fun hq => ?_))) hpv)
          exact subN_mem hsub p (belowN_mem hq hpl)
        · intro id hid hst hlv
          obtain ⟨hg, t, b, e1, e2, e3, e4, _, e5⟩ := s4 id hlv
          have hbl : b < st.heap.length := by obtain ⟨o, ho, _⟩ := e4; exact (List.getElem?_eq_some_iff.1 ho).1
          have hnst : ¬ stays ef b := by
            intro hsb
            exact hst ((nodup_tgt hn id b t (.obj b) b e1 (hpar b hsb) e2 rfl) ▸ hsb)
          rw [e5]
          rcases h.loc b hbl hnst e4 with hl | ⟨p, hpl, hq, hpv, he⟩
          · exact .inl hl
          · exact .inr ⟨p, hpl, hq.imp (fun h => h) (fun hq => hq.imp (fun h => h) (fun hq => subN_mem hsub p (belowN_mem hq hpl))), hpv, he⟩
        · rw [show (s.st gen (x, y)).heap = encO rid s.heap y from rfl, hlen]
          exact hkl p _ (hpar p hst)
        · have key : ∀ hlv : live0 (EA T E w.heap.size s.heap A) (encO rid s.heap y) p, live0 E st.heap p ∧ (live (EA T E w.heap.size s.heap A) (encO rid s.heap y) p → live E st.heap p) := by
            intro hlv
            obtain ⟨hg, t, b, e1, e2, e3, e4, e6, e5⟩ := s4 p hlv
            rw [hpar p hst] at e1
            cases e1
            simp [tgtB] at e2; subst e2
            exact ⟨e4, e6⟩
          exact ⟨fun hlv => (h.old p hst).1 ((key hlv.to0).2 hlv), fun hlv => (h.old p hst).2 (key hlv).1⟩
      · cases hd
    · cases hd
  · cases hd
end
end Go.Proofs.YtlflclfhldghbaaGreatDoor.Ls
end
