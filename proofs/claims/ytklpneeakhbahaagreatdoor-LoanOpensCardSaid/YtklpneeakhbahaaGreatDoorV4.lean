-- Texts of this claim, joined and cut down to what it uses (a program of this session).
import Derived.Test.YtklpneeakhbahaaGreatDoorV3
import Derived.Recover
import Derived.Laws.Externs
import Derived.Test.YtklpneeakhbahaaGreatDoorProg
import Derived.KernelRfl
section
set_option linter.unusedVariables false
set_option linter.unusedSimpArgs false
namespace Go.Proofs.YtklpneeakhbahaaGreatDoor.Ls
open Go
noncomputable section
variable {T : TypeId → VS}
def keepsOf : List (Ob T) → List Eff
  | [] => []
  | _ :: r => .keep :: keepsOf r
def unrollT (cx : Cx T) (ef : List Eff) : Nat → List It → St T → Tr (Stop T)
  | 0, _, _ => .fail
  | k + 1, todo, st => (roundL cx ef todo st).bind fun s => match s with
    | .cut todo' st' => unrollT cx ef k todo' st'
    | s => .leaf s
def runU (cx : Cx T) (ef : List Eff) (k : Nat) (c : Code) (st : St T) : Tr (Stop T) :=
  (runC cx ef c st).bind fun s => match s with
    | .cut todo' st' => unrollT cx ef k todo' st'
    | s => .leaf s
def outH (H : List (Ob T)) (st : St T) : List (Ob T) := unmask st.dirty 0 H st.heap
def retOut (cx : Cx T) (fn : Func) (H : List (Ob T)) (st : St T) : Tr (CallOut T) :=
  match resultV cx st fn.results.toList with
  | some (vs, st) => .leaf (.ret (match vs with | [v] => v | vs => .tuple ⟨vs⟩) (outH H st) (belowN H.length st.dirty) st.ok)
  | none => .fail
def stopOut (cx : Cx T) (fn : Func) (H : List (Ob T)) : Stop T → Tr (CallOut T)
  | .ret st => retOut cx fn H st
  | .done st => retOut cx fn H st
  | .pan v st => .leaf (.pan v (outH H st) (belowN H.length st.dirty) st.ok)
  | _ => .fail
def stI (args : List Value) (H : List (Ob T)) : St T := { env := argEnv 0 args, heap := H, dirty := [], known := [], gen := 0, ok := true }
def inlC (cx : Cx T) (fn : Func) (k : Nat) (args : List Value) (H : List (Ob T)) : Tr (CallOut T) :=
  match fn.body with
  | some c => match Nat.ble args.length cx.n with
    | true => (runU cx (keepsOf H) k c (stI args H)).bind (stopOut cx fn H)
    | false => .fail
  | none => .fail
structure Inl where
  f : FuncId
  k : Nat
  nojoin : List Nat
  closed : List Nat
def findI : List Inl → FuncId → Option Inl
  | [], _ => none
  | e :: r, f => match Nat.beq e.f f with | true => some e | false => findI r f
def Cx.inn (cx : Cx T) (n : Nat) (e : Inl) (call : FuncId → List Value → List (Ob T) → Tr (CallOut T)) : Cx T :=
  { cx with call := call, n := n, nojoin := e.nojoin, closed := e.closed, cuts := [], joins := [] }
def inlThere (P : Program) : List Inl → Bool
  | [] => true
  | e :: r => there P e.f && inlThere P r
end
section
variable {T : TypeId → VS} {cx : Cx T}
theorem keepsOf_len : ∀ H : List (Ob T), (keepsOf H).length = H.length
  | [] => rfl
  | _ :: r => by simp [keepsOf, keepsOf_len r]
theorem keepsOf_get : ∀ (H : List (Ob T)) (p : Nat), p < H.length → (keepsOf H)[p]? = some .keep
  | [], p, h => by simp at h
  | _ :: r, 0, h => rfl
  | _ :: r, p + 1, h => by simp only [keepsOf, List.getElem?_cons_succ]; exact keepsOf_get r p (by simpa using h)
theorem keepsOf_stays (H : List (Ob T)) (p : Nat) : stays (keepsOf H) p ↔ p < H.length := by
  constructor
  · intro h; have := stays_lt h; rwa [keepsOf_len] at this
  · intro h; exact ⟨.keep, keepsOf_get H p h, by simp⟩
def StopC (cx : Cx T) (ef : List Eff) (E0 : Emb) (w0 : World) (H0 : List (Ob T)) (G : List Nat) (ds : List Deferred) (Q : Exit → Act → World → Prop) : Stop T → Prop
  | .done st' => ∀ a' w' E', a'.defers = ds → CR cx ef E0 w0 H0 G E' st' a' w' → Q .normal a' w'
  | .exit id st' => ∀ a' w' E', a'.defers = ds → CR cx ef E0 w0 H0 G E' st' a' w' → Q (.exit id) a' w'
  | .ret st' => ∀ a' w' E', a'.defers = ds → CR cx ef E0 w0 H0 G E' st' a' w' → Q .ret a' w'
  | .pan v st' => ∀ v' a' w' E', a'.defers = ds → CR cx ef E0 w0 H0 G E' st' a' w' → VR E' st'.heap.length v v' → Q (.panic [{ v := v', recovered := false }]) a' w'
  | .cut todo st' => ∀ a' w' E', a'.defers = ds → CR cx ef E0 w0 H0 G E' st' a' w' → postK cx.P todo Q .normal a' w'
theorem StopC.toK {ef : List Eff} {E0 : Emb} {w0 : World} {H0 : List (Ob T)} {G : List Nat} {ds : List Deferred} {Q : Exit → Act → World → Prop} {s : Stop T} (h : StopC cx ef E0 w0 H0 G ds Q s) {E : Emb} {st : St T} {a : Act} {w : World} (hd : a.defers = ds) : StopK cx ef E0 w0 H0 G E st a w Q s := by
  cases s with
  | done st' => exact fun a' w' E' hd' hc _ => h a' w' E' (hd'.trans hd) hc
  | exit id st' => exact fun a' w' E' hd' hc _ => h a' w' E' (hd'.trans hd) hc
  | ret st' => exact fun a' w' E' hd' hc => h a' w' E' (hd'.trans hd) hc
  | pan v st' => exact fun v' a' w' E' hd' hc hv => h v' a' w' E' (hd'.trans hd) hc hv
  | cut l st' => exact fun a' w' E' hd' hc => h a' w' E' (hd'.trans hd) hc
theorem roundL_ok (hDL : RgDrawLvl cx) (ef : List Eff) {todo : List It} {st : St T} {s : Stop T} (h : (roundL cx ef todo st).pick = some s) (hok : s.state.ok = true) : st.ok = true := by
  unfold roundL at h
  split at h
  · obtain ⟨s1, h1, h2⟩ := pick_bind _ _ _ h
    have k := resume_lvl hDL ef _ s1 s h2 hok
    exact (runC_lvl hDL ef _ st s1 h1 k.1).1
  · exact (pick_fail h).elim
theorem unrollT_ok (hDL : RgDrawLvl cx) (ef : List Eff) : ∀ (k : Nat) {todo : List It} {st : St T} {s : Stop T}, (unrollT cx ef k todo st).pick = some s → s.state.ok = true → st.ok = true
  | 0, todo, st, s, h, hok => (pick_fail h).elim
  | k + 1, todo, st, s, h, hok => by
    simp only [unrollT] at h
    obtain ⟨s1, h1, h2⟩ := pick_bind _ _ _ h
    refine roundL_ok hDL ef h1 ?_
    split at h2
    · exact unrollT_ok hDL ef k h2 hok
    · have := pick_leaf h2; subst this; exact hok
theorem unrollT_sound (hC : CallOK cx) (hD : RgDraw cx) (hDL : RgDrawLvl cx) (ef : List Eff) {E0 : Emb} {w0 : World} {H0 : List (Ob T)} {G : List Nat} {ds : List Deferred} {Q : Exit → Act → World → Prop} :
    ∀ (k : Nat) {todo : List It} {st : St T} {s : Stop T}, (unrollT cx ef k todo st).pick = some s → s.state.ok = true → StopC cx ef E0 w0 H0 G ds Q s →
    ∀ (E : Emb) (a : Act) (w : World), CR cx ef E0 w0 H0 G E st a w → a.defers = ds → postK cx.P todo Q .normal a w
  | 0, todo, st, s, h, hok, hS => (pick_fail h).elim
  | k + 1, todo, st, s, h, hok, hS => by
    intro E a w hc hd
    simp only [unrollT] at h
    obtain ⟨s1, h1, h2⟩ := pick_bind _ _ _ h
    split at h2
    · rename_i todo' st'
      have k1 := unrollT_ok hDL ef k h2 hok
      have hcut : StopC cx ef E0 w0 H0 G ds Q (.cut todo' st') := fun a' w' E' hd' hc' => unrollT_sound hC hD hDL ef k h2 hok hS E' a' w' hc' hd'
      exact roundL_sound hC hD hDL ef hc h1 k1 (hcut.toK hd)
    · have := pick_leaf h2; subst this
      exact roundL_sound hC hD hDL ef hc h1 hok (hS.toK hd)
theorem runU_ok (hDL : RgDrawLvl cx) (ef : List Eff) {k : Nat} {c : Code} {st : St T} {s : Stop T} (h : (runU cx ef k c st).pick = some s) (hok : s.state.ok = true) : st.ok = true := by
  unfold runU at h
  obtain ⟨s1, h1, h2⟩ := pick_bind _ _ _ h
  refine (runC_lvl hDL ef c st s1 h1 ?_).1
  split at h2
  · exact unrollT_ok hDL ef k h2 hok
  · have := pick_leaf h2; subst this; exact hok
theorem runU_sound (hC : CallOK cx) (hD : RgDraw cx) (hDL : RgDrawLvl cx) (ef : List Eff) {E0 : Emb} {w0 : World} {H0 : List (Ob T)} {G : List Nat} {Q : Exit → Act → World → Prop}
    {k : Nat} {c : Code} {st : St T} {s : Stop T} (h : (runU cx ef k c st).pick = some s) (hok : s.state.ok = true)
    {E : Emb} {a : Act} {w : World} (hc : CR cx ef E0 w0 H0 G E st a w) (hS : StopC cx ef E0 w0 H0 G a.defers Q s) : c.wp cx.P Q a w := by
  unfold runU at h
  obtain ⟨s1, h1, h2⟩ := pick_bind _ _ _ h
  split at h2
  · rename_i todo' st'
    have k1 := unrollT_ok hDL ef k h2 hok
    have hcut : StopC cx ef E0 w0 H0 G a.defers Q (.cut todo' st') := fun a' w' E' hd' hc' => unrollT_sound hC hD hDL ef k h2 hok hS E' a' w' hc' hd'
    exact runC_sound hC hD hDL ef c hc h1 k1 (hcut.toK rfl)
  · have := pick_leaf h2; subst this
    exact runC_sound hC hD hDL ef c hc h1 hok (hS.toK rfl)
theorem CR.begin {E : Emb} {w : World} {H : List (Ob T)} (hS : Sim cx.glob E H w) {env : List (Nat × Value)} {a : Act} (hV : EnvR E H.length env a) (hsz : a.tmps.size = cx.n) {st : St T} (h1 : st.heap = H) (h2 : st.env = env) :
    CR cx (keepsOf H) E w H [] E st a w := by
  subst h1; subst h2
  refine ⟨⟨hS, hV, hsz⟩, fun _ _ => rfl, fun _ _ _ => rfl, ?_, rfl, rfl, rfl, Nat.le_refl _, ?_, ?_, fun _ _ => ⟨fun h => h, fun h => h⟩, fun _ _ => rfl⟩
  · intro id hid hst hlv; exact absurd ((keepsOf_stays _ id).2 hid) hst
  · rw [keepsOf_len]; exact hS.le
  · intro p hp; exact (keepsOf_stays _ p).1 hp
theorem CR.stp {E : Emb} {w : World} {H : List (Ob T)} (hS : Sim cx.glob E H w) {E' : Emb} {st : St T} {a : Act} {w' : World} (hc : CR cx (keepsOf H) E w H [] E' st a w') :
    H.length ≤ st.heap.length ∧ Stp cx.glob E ⟨[], H, [], [], 0, true⟩ w E' ⟨[], outH H st, belowN H.length st.dirty, [], 0, true⟩ w' := by
  have hle : H.length ≤ st.heap.length := by
    cases hn : H.length with
    | zero => omega
    | succ n =>
      have := hc.pin n ((keepsOf_stays H n).2 (by omega))
      omega
  have hlen : (outH H st).length = st.heap.length := unmask_len _ _ _ hle
  have hget : ∀ j : Nat, (outH H st)[j]? = if j < H.length ∧ j ∉ st.dirty then H[j]? else st.heap[j]? := by
    intro j
    have := unmask_get (D := st.dirty) st.heap H 0 j hle
    rwa [Nat.zero_add] at this
  have hpar : ∀ p, p < H.length → E' p = E p := fun p hp => hc.par p ((keepsOf_stays H p).2 hp)
  have hagr : ∀ id, okId H.length id → E' id = E id := fun id h => h.elim (hpar id) (hc.gl id)
  have hS' := hc.str.sim
  have hGB : H.length ≤ GB := hS.le
  have hfr : ∀ (id : Nat) (o : Ob T), id ∉ st.dirty → lookO cx.glob H id = some o → solid0 E id o → w'.heap[(E id).blk]? = w.heap[(E id).blk]? := by
    intro id o hid ho hs
    refine hc.frame _ ((hS.ob id o ho).lt hs) ?_
    intro p hp hq hlv he
    rw [keepsOf_len] at hp
    have hpd : p ∈ st.dirty := by
      rcases hq with hq | hq | hq
      · exact absurd ((keepsOf_stays H p).2 hp) hq
      · cases hq
      · exact hq
    obtain ⟨op, ho2, hs2⟩ := hlv
    exact hS.sep id p o op (fun e => hid (e ▸ hpd)) ho (by rw [lookO_lt (by omega)]; exact ho2) hs hs2 he.symm
  have hlook : ∀ (id : Nat) (o : Ob T), lookO cx.glob (outH H st) id = some o → (lookO cx.glob H id = some o ∧ (id < H.length ∧ id ∉ st.dirty ∨ GB ≤ id)) ∨ (id < GB ∧ st.heap[id]? = some o ∧ (id ∈ st.dirty ∨ H.length ≤ id)) := by
    intro id o h
    by_cases hg : GB ≤ id
    · rw [lookO_ge hg] at h; exact .inl ⟨by rw [lookO_ge hg]; exact h, .inr hg⟩
    · rw [lookO_lt (by omega), hget] at h
      split at h
      · rename_i h1; exact .inl ⟨by rw [lookO_lt (by omega)]; exact h, .inl h1⟩
      · rename_i h1
        refine .inr ⟨by omega, h, ?_⟩
        by_cases hd : id ∈ st.dirty
        · exact .inl hd
        · exact .inr (by by_cases hl : id < H.length; exact absurd ⟨hl, hd⟩ h1; omega)
  have hnew : ∀ (id : Nat) (o : Ob T), id < GB → st.heap[id]? = some o → (id ∈ st.dirty ∨ H.length ≤ id) → solid0 E' id o → w.heap.size ≤ (E' id).blk ∨ ∃ p, p < H.length ∧ p ∈ st.dirty ∧ (p = id ∨ H.length ≤ id ∧ live E H p) ∧ (live0 E H p ∧ (solid E' id o → live E H p)) ∧ (E' id).blk = (E p).blk := by
    intro id o hg ho hq hs
    by_cases hl : id < H.length
    · refine .inr ⟨id, hl, hq.elim (fun h => h) (fun h => by omega), .inl rfl, ⟨(hc.old id ((keepsOf_stays H id).2 hl)).2 ⟨o, ho, hs⟩, fun h => (hc.old id ((keepsOf_stays H id).2 hl)).1 ⟨o, ho, h⟩⟩, by rw [hpar id hl]⟩
    · rcases hc.loc id (List.getElem?_eq_some_iff.1 ho).1 (fun h => hl ((keepsOf_stays H id).1 h)) ⟨o, ho, hs⟩ with h | ⟨p, hp, hq, hlv, he⟩
      · exact .inl h
      · rw [keepsOf_len] at hp
        refine .inr ⟨p, hp, ?_, .inr ⟨by omega, hlv⟩, ⟨hlv.to0, fun _ => hlv⟩, he⟩
        rcases hq with hq | hq | hq
        · exact absurd ((keepsOf_stays H p).2 hp) hq
        · cases hq
        · exact hq
  have hsepm : ∀ (i j : Nat) (oi oj : Ob T), lookO cx.glob H i = some oi → (i < H.length ∧ i ∉ st.dirty ∨ GB ≤ i) → solid0 E i oi → j < GB → st.heap[j]? = some oj → (j ∈ st.dirty ∨ H.length ≤ j) → solid0 E' j oj → (solid E i oi ∨ solid E' j oj) → (E i).blk ≠ (E' j).blk := by
    intro i j oi oj hi hi2 si hj hoj hj2 sj hor
    rcases hnew j oj hj hoj hj2 sj with h | ⟨p, hp, hpd, _, ⟨⟨op, ho2, hs2⟩, hl⟩, he⟩
    · have := (hS.ob i oi hi).lt si; omega
    · rw [he]
      have hne : i ≠ p := by
        intro e
        subst e
        rcases hi2 with h | h
        · exact h.2 hpd
        · omega
      have hop : lookO cx.glob H p = some op := by rw [lookO_lt (by omega)]; exact ho2
      rcases hor with hor | hor
      · exact (hS.sep p i op oi hne.symm hop hi hs2 hor).symm
      · obtain ⟨op2, ho3, hs3⟩ := hl hor
        obtain rfl : op2 = op := Option.some.inj (ho3.symm.trans ho2)
        exact hS.sep i p oi op2 hne hi hop si hs3
  have hEi : ∀ (i : Nat), (i < H.length ∧ i ∉ st.dirty ∨ GB ≤ i) → E' i = E i := fun i h => hagr i (h.imp (fun h => h.1) (fun h => h))
  have hsim : Sim cx.glob E' (outH H st) w' := by
    refine ⟨by rw [hlen]; exact hS'.le, ?_, ?_, hS'.glo, hS'.gok⟩
    · intro id o h
      rw [hlen]
      rcases hlook id o h with ⟨h1, h2⟩ | ⟨h1, h2, h3⟩
      · by_cases hid : id ∈ st.dirty
        · rcases h2 with h2 | h2
          · exact absurd hid h2.2
          · exact hS'.ob id o (by rw [lookO_ge h2] at h1 ⊢; exact h1)
        · exact (hS.ob id o h1).step (hEi id h2) hagr hle (fun hs => hfr id o hid h1 hs)
      · exact hS'.ob id o (by rw [lookO_lt h1]; exact h2)
    · intro i j oi oj hij hi hj si sj
      rcases hlook i oi hi with ⟨i1, i2⟩ | ⟨i1, i2, i3⟩
      · have ei := hEi i i2
        have si' : solid0 E i oi := solid0_eq ei si
        rcases hlook j oj hj with ⟨j1, j2⟩ | ⟨j1, j2, j3⟩
        · have ej := hEi j j2
          rw [ei, ej]; exact hS.sep i j oi oj hij i1 j1 si' (solid_eq ej sj)
        · rw [ei]; exact hsepm i j oi oj i1 i2 si' j1 j2 j3 sj.to0 (.inr sj)
      · rcases hlook j oj hj with ⟨j1, j2⟩ | ⟨j1, j2, j3⟩
        · have ej := hEi j j2
          rw [ej]; exact (hsepm j i oj oi j1 j2 (solid_eq ej sj).to0 i1 i2 i3 si (.inl (solid_eq ej sj))).symm
        · exact hS'.sep i j oi oj hij (by rw [lookO_lt i1]; exact i2) (by rw [lookO_lt j1]; exact j2) si sj
  refine ⟨hle, hsim, by show H.length ≤ (outH H st).length; rw [hlen]; exact hle, hagr, hc.os, hc.tape, hc.out, hc.size, ?_, ?_, ?_, ?_, rfl, ?_⟩
  · intro b hb hD
    refine hc.frame b hb (fun p hp hq hlv => ?_)
    rw [keepsOf_len] at hp
    have hpd : p ∈ st.dirty := by
      rcases hq with hq | hq | hq
      · exact absurd ((keepsOf_stays H p).2 hp) hq
      · cases hq
      · exact hq
    exact hD p (belowN_mem hpd hp) hp hlv
  · intro id hid1 hid2 hlv
    obtain ⟨o, ho, hs⟩ := hlv
    have hid2 : id < (outH H st).length := hid2
    have hid1 : H.length ≤ id := hid1
    have ho : (outH H st)[id]? = some o := ho
    have hg : id < GB := by have := hS'.le; rw [hlen] at hid2; omega
    rw [hget, if_neg (by omega)] at ho
    rcases hnew id o hg ho (.inr hid1) hs with h | ⟨p, hp, hpd, hl, _, he⟩
    · exact .inl h
    · exact .inr ⟨p, belowN_mem hpd hp, hp, (hl.resolve_left (by omega)).2, he⟩
  · intro id hid hD
    have hid : id < H.length := hid
    show (outH H st)[id]? = H[id]?
    rw [hget, if_pos ⟨hid, fun h => hD (belowN_mem h hid)⟩]
  · intro id hid; cases hid
  · refine fun id hid => ⟨fun hlv => ?_, fun hlv => ?_⟩
    · obtain ⟨o, ho, hs⟩ := hlv
      have hid : id < H.length := hid
      have ho : (outH H st)[id]? = some o := ho
      rw [hget] at ho
      split at ho
      · exact ⟨o, ho, solid_eq (hpar id hid) hs⟩
      · exact (hc.old id ((keepsOf_stays H id).2 hid)).1 ⟨o, ho, hs⟩
    · obtain ⟨o, ho, hs⟩ := hlv
      have hid : id < H.length := hid
      have ho : (outH H st)[id]? = some o := ho
      rw [hget] at ho
      split at ho
      · exact ⟨o, ho, solid0_eq (hpar id hid) hs⟩
      · exact (hc.old id ((keepsOf_stays H id).2 hid)).2 ⟨o, ho, hs⟩
theorem argEnv_rel {E : Emb} {N n : Nat} {args args' : List Value} (h : PW E N args args') (hle : args'.length ≤ n) : EnvR E N (argEnv 0 args) { tmps := (⟨args'⟩ : Array Value) ++ Array.replicate (n - (⟨args'⟩ : Array Value).size) undef, defers := [] } := by
  intro t
  rw [argEnv_get, if_pos (Nat.zero_le _), Nat.sub_zero]
  by_cases ht : t < args'.length
  · have hl : t < args.length := by rw [h.1]; exact ht
    have := h.2 t _ _ (List.getElem?_eq_getElem hl) (List.getElem?_eq_getElem ht)
    have e1 : args.getD t undef = args[t] := by simp [List.getD, hl]
    have e2 : ((⟨args'⟩ : Array Value) ++ Array.replicate (n - (⟨args'⟩ : Array Value).size) undef).getD t undef = args'[t] := by
      simp [Array.getD_eq_getD_getElem?, Array.getElem?_append, ht]
    rw [e1, e2]; exact this
  · have hl : ¬ t < args.length := by rw [h.1]; exact ht
    have e1 : args.getD t undef = undef := by simp [List.getD, Nat.le_of_not_lt hl]
    rw [e1]; exact .any _
theorem res_vr {E : Emb} {N : Nat} {vs vs' : List Value} : PW E N vs vs' → VR E N (match vs with | [v] => v | vs => .tuple ⟨vs⟩) (match vs' with | [v] => v | vs => .tuple ⟨vs⟩) := by
  intro h
  match vs, vs', h with
  | [], [], h7 => exact VR.tup_mk .nil
  | [], _ :: _, h7 => exact absurd h7.1 (by simp)
  | [v], [u], h7 => exact (h7.2 0 v u rfl rfl)
  | [v], [], h7 => exact absurd h7.1 (by simp)
  | [v], _ :: _ :: _, h7 => exact absurd h7.1 (by simp)
  | v1 :: v2 :: l, [], h7 => exact absurd h7.1 (by simp)
  | v1 :: v2 :: l, [_], h7 => exact absurd h7.1 (by simp)
  | v1 :: v2 :: l, _ :: _ :: _, h7 => exact VR.tup_mk h7
theorem resultV_ok : ∀ (l : List ResultVar) {st st' : St T} {vs : List Value}, resultV cx st l = some (vs, st') → st'.ok = true → st.ok = true
  | [], st, st', vs, h, hok => by simp [resultV] at h; rw [h.2]; exact hok
  | .tmp t :: l, st, st', vs, h, hok => by
    simp only [resultV] at h
    split at h
    · rename_i l1 st1 h1; simp at h; rw [← h.2] at hok; exact resultV_ok l h1 hok
    · cases h
  | .cell x t :: l, st, st', vs, h, hok => by
    simp only [resultV] at h
    split at h
    · split at h
      · rename_i g _ _ l1 st1 h1
        simp at h; rw [← h.2] at hok
        refine resultV_ok l h1 ?_
        cases g with
        | none => exact hok
        | some g => simp [St.need] at hok; exact hok.1
      · cases h
    · cases h
theorem retOut_sound {fn : Func} {E : Emb} {w : World} {H : List (Ob T)} (hS : Sim cx.glob E H w) {E' : Emb} {st : St T} {a : Act} {w' : World} (hc : CR cx (keepsOf H) E w H [] E' st a w') {out : CallOut T}
    (h : (retOut cx fn H st).pick = some out) (hok : out.ok = true) : st.ok = true ∧ ∃ v, (results fn a.tmps).run cx.P w' = .ok v w' ∧ CallR cx.glob E H w out (.returned v) w' := by
  unfold retOut at h
  split at h
  · rename_i vs st1 h1
    have := pick_leaf h; subst this
    obtain ⟨⟨h2, e1, e2⟩, vs', h3, h4⟩ := resultV_sound _ h1 hok hc.str.sim hc.str.env
    refine ⟨h2, _, results_run fn _ h3, E', ?_, ?_⟩
    · have hl : (outH H st1).length = st.heap.length := by
        show (unmask st1.dirty 0 H st1.heap).length = _
        rw [e1, e2]; exact unmask_len _ _ _ (hc.stp hS).1
      rw [hl]; exact res_vr h4
    · have hs := (hc.stp hS).2
      have e : outH H st1 = outH H st := by unfold outH; rw [e1, e2]
      rw [e, e2]; exact hs
  · exact (pick_fail h).elim
theorem inlC_sound (hC : CallOK cx) (hD : RgDraw cx) (hDL : RgDrawLvl cx) {f : FuncId} {fn : Func} {k : Nat} (hf : cx.P.funcs[f]? = some fn) (hn : fn.ntmps = cx.n) {args : List Value} {H : List (Ob T)} {out : CallOut T} (h : (inlC cx fn k args H).pick = some out) (hok : out.ok = true)
    {E : Emb} {w : World} {args' : List Value} (ha : PW E H.length args args') (hS : Sim cx.glob E H w) : Calls cx.P f ⟨args'⟩ w (CallR cx.glob E H w out) := by
  unfold inlC at h
  split at h
  · rename_i c hb
    split at h
    case h_2 => exact (pick_fail h).elim
    rename_i hble
    have hle : args'.length ≤ fn.ntmps := by rw [← ha.1, hn]; exact Nat.le_of_ble_eq_true hble
    obtain ⟨s, h1, h2⟩ := pick_bind _ _ _ h
    refine calls_of_wp hf hb ?_
    have hsok : s.state.ok = true := by
      cases s with
      | done st =>
        simp only [stopOut, retOut] at h2
        split at h2
        · rename_i vs st1 h3
          have := pick_leaf h2; subst this
          exact resultV_ok (cx := cx) _ h3 hok
        · exact (pick_fail h2).elim
      | ret st =>
        simp only [stopOut, retOut] at h2
        split at h2
        · rename_i vs st1 h3
          have := pick_leaf h2; subst this
          exact resultV_ok (cx := cx) _ h3 hok
        · exact (pick_fail h2).elim
      | pan v st => have := pick_leaf h2; subst this; exact hok
      | exit i st => exact (pick_fail h2).elim
      | cut l st => exact (pick_fail h2).elim
    refine runU_sound hC hD hDL (keepsOf H) h1 hsok (E0 := E) (w0 := w) (H0 := H) (G := []) (CR.begin hS (argEnv_rel ha hle) ?_ rfl rfl) ?_
    · simp [hn]; omega
    · cases s with
      | done st =>
        intro a' w' E' hd hc
        obtain ⟨_, v, h3, h4⟩ := retOut_sound hS hc h2 hok
        exact ⟨hd, v, h3, h4⟩
      | ret st =>
        intro a' w' E' hd hc
        obtain ⟨_, v, h3, h4⟩ := retOut_sound hS hc h2 hok
        exact ⟨hd, v, h3, h4⟩
      | pan v st =>
        intro v' a' w' E' hd hc hv
        have := pick_leaf h2; subst this
        refine ⟨hd, v', E', rfl, ?_, (hc.stp hS).2⟩
        have hl : (outH H st).length = st.heap.length := unmask_len _ _ _ (hc.stp hS).1
        rw [hl]; exact hv
      | exit i st => exact (pick_fail h2).elim
      | cut l st => exact (pick_fail h2).elim
  · exact (pick_fail h).elim
theorem findI_mem : ∀ {l : List Inl} {f : FuncId} {e : Inl}, findI l f = some e → e.f = f ∧ ∀ P, inlThere P l = true → there P e.f = true
  | [], f, e, h => by cases h
  | x :: r, f, e, h => by
    simp only [findI] at h
    split at h
    · rename_i hb
      simp at h; subst h
      exact ⟨Nat.eq_of_beq_eq_true hb, fun P hp => by simp [inlThere] at hp; exact hp.1⟩
    · obtain ⟨h1, h2⟩ := findI_mem h
      exact ⟨h1, fun P hp => by simp [inlThere] at hp; exact h2 P hp.2⟩
theorem there_fn {P : Program} {f : FuncId} (h : there P f = true) : ∃ fn, P.funcs[f]? = some fn ∧ (fn.name == "runtime.NumGoroutine") = false ∧ fn.body.isNone = false := by
  unfold there at h
  split at h
  · rename_i fn hf
    simp at h
    exact ⟨fn, hf, by simpa using h.1, by simpa using h.2⟩
  · cases h
end
end Go.Proofs.YtklpneeakhbahaaGreatDoor.Ls
end
section
set_option linter.unusedVariables false
set_option linter.unusedSimpArgs false
namespace Go.Proofs.YtklpneeakhbahaaGreatDoor.Ls
open Go
noncomputable section
variable {T : TypeId → VS}
def closC (cx : Cx T) (gn : Func) (k : Nat) (cap : List Value) (v : Value) (H : List (Ob T)) : Tr (CallOut T) :=
  match gn.body with
  | some (.seq (.region _ ops false) c) => match ops.toList, Nat.ble cap.length cx.n with
    | [r, m], true => match r.op, r.guard, r.dst with
      | .call ⟨.builtin .recover, _, _⟩, none, some t => match m.op, m.guard, m.dst with
        | .assign (.tmp u), none, some x => match Nat.beq t u && (Nat.blt t cx.n && Nat.blt x cx.n) with
          | true => (runU cx (keepsOf H) k c { env := (x, v) :: (t, v) :: argEnv 0 cap, heap := H, dirty := [], known := [], gen := 0, ok := true }).bind fun s => match s with
            | .ret st => retOut cx gn H st
            | .done st => retOut cx gn H st
            | _ => .fail
          | false => .fail
        | _, _, _ => .fail
      | _, _, _ => .fail
    | _, _ => .fail
  | _ => .fail
def capOf (g : FuncId) : Value → Option (List Value)
  | .func (.func f) first cap => match Nat.beq f g, first.toList with
    | true, [] => some cap.toList
    | _, _ => none
  | _ => none
def afterD (cx : Cx T) (fn : Func) (H : List (Ob T)) (st : St T) : CallOut T → Tr (CallOut T)
  | .ret _ H' D ok => retOut cx fn H { st with heap := H', dirty := D ++ st.dirty, ok := st.ok && ok }
  | .pan _ _ _ _ => .fail
def tailD (cx : Cx T) (fn : Func) (H : List (Ob T)) (clos : Value → List (Ob T) → Tr (CallOut T)) : Stop T → Tr (CallOut T)
  | .ret st => (clos .nilIface st.heap).bind (afterD cx fn H st)
  | .done st => (clos .nilIface st.heap).bind (afterD cx fn H st)
  | .pan v st => (clos v st.heap).bind (afterD cx fn H st)
  | _ => .fail
def overS (st2 st : St T) : St T := { st with heap := outH st2.heap st, dirty := st.dirty ++ st2.dirty, gen := st2.gen }
def Stop.over (st2 : St T) : Stop T → Stop T
  | .done st => .done (overS st2 st)
  | .exit i st => .exit i (overS st2 st)
  | .ret st => .ret (overS st2 st)
  | .pan v st => .pan v (overS st2 st)
  | .cut l st => .cut l (overS st2 st)
def dfrC (cx : Cx T) (fn : Func) (k : Nat) (g : FuncId) (clos : List Value → Value → List (Ob T) → Tr (CallOut T)) (args : List Value) (H : List (Ob T)) : Tr (CallOut T) :=
  match fn.body with
  | some (.seq r0 (.seq (.region _ ops false) rest)) => match ops.toList, Nat.ble args.length cx.n with
    | [m, d], true => match d.op, d.guard, d.dst with
      | .defer ⟨.value x, aas, _⟩, none, none => match aas.toList with
        | [] => (runC cx (keepsOf H) r0 (stI args H)).bind fun s => match s with
          | .done st1 => (oneOp cx ops.toList m st1).bind fun r => match r with
            | .done st2 => match capOf g (st2.ev x) with
              | some cap => (runU cx (keepsOf st2.heap) k rest { st2 with dirty := [] }).bind fun s => tailD cx fn H (clos cap) (s.over st2)
              | none => .fail
            | .pan _ _ => .fail
          | _ => .fail
        | _ :: _ => .fail
      | _, _, _ => .fail
    | _, _ => .fail
  | _ => .fail
structure Dfr where
  i : Inl
  j : Inl
def findD : List Dfr → FuncId → Option Dfr
  | [], _ => none
  | e :: r, f => match Nat.beq e.i.f f with | true => some e | false => findD r f
def callD (cx : Cx T) (inl : List Inl) (dfr : List Dfr) : Nat → FuncId → List Value → List (Ob T) → Tr (CallOut T)
  | 0, f, args, H => cx.call f args H
  | d + 1, f, args, H => match findI inl f with
    | some e => match cx.P.funcs[f]? with
      | none => .fail
      | some fn => inlC (cx.inn fn.ntmps e (callD cx inl dfr d)) fn e.k args H
    | none => match findD dfr f with
      | some e => match cx.P.funcs[f]?, cx.P.funcs[e.j.f]? with
        | some fn, some gn => dfrC (cx.inn fn.ntmps e.i (callD cx inl dfr d)) fn e.i.k e.j.f (closC (cx.inn gn.ntmps e.j (callD cx inl dfr d)) gn e.j.k) args H
        | _, _ => .fail
      | none => cx.call f args H
def dfrThere (P : Program) : List Dfr → Bool
  | [] => true
  | e :: r => there P e.i.f && (there P e.j.f && dfrThere P r)
end
section
variable {T : TypeId → VS} {cx : Cx T}
theorem retOut_ok {fn : Func} {H : List (Ob T)} {st : St T} {out : CallOut T} (h : (retOut cx fn H st).pick = some out) (hok : out.ok = true) : st.ok = true := by
  unfold retOut at h
  split at h
  · rename_i vs st1 h3
    have := pick_leaf h; subst this
    exact resultV_ok (cx := cx) _ h3 hok
  · exact (pick_fail h).elim
theorem act_put_tmp {a : Act} {t : Nat} {v : Value} (h : t < a.tmps.size) : (a.put (some t) v).eval (.tmp t) = v := by
  simp [Act.put, Act.eval, h]
theorem belowN_sub {m i : Nat} : ∀ {l : List Nat}, i ∈ belowN m l → i ∈ l
  | [], h => h
  | j :: r, h => by
    unfold belowN at h
    split at h
    · simp at h ⊢; exact h.imp (fun h => h) belowN_sub
    · simp; exact .inr (belowN_sub h)
theorem closC_sound (hC : CallOK cx) (hD : RgDraw cx) (hDL : RgDrawLvl cx) {g : FuncId} {gn : Func} {k : Nat} (hg : cx.P.funcs[g]? = some gn) (hn : gn.ntmps = cx.n) {cap : List Value} {v : Value} {H : List (Ob T)} {out : CallOut T}
    (h : (closC cx gn k cap v H).pick = some out) (hok : out.ok = true) {E : Emb} {w : World} {cap' : List Value} (ha : PW E H.length cap cap') (hS : Sim cx.glob E H w) {u : FrameMode} {v' : Value} (hv : VR E H.length v v')
    (hu : (u = .returning ∧ v' = .nilIface) ∨ u = .panicking [{ v := v', recovered := false }]) :
    CallsD cx.P g ⟨cap'⟩ u w (fun e u' w' => ∃ r, e = .returned r ∧ settle u' = .returning ∧ CallR cx.glob E H w out (.returned r) w') := by
  unfold closC at h
  split at h
  case h_2 => exact (pick_fail h).elim
  rename_i id ops c hb
  split at h
  case h_2 => exact (pick_fail h).elim
  rename_i r m hops hble
  split at h
  case h_2 => exact (pick_fail h).elim
  rename_i aas ats t hr1 hr2 hr3
  split at h
  case h_2 => exact (pick_fail h).elim
  rename_i u' x hm1 hm2 hm3
  split at h
  case h_2 => exact (pick_fail h).elim
  rename_i hb3
  simp at hb3
  obtain ⟨hb1, hb2, hb3⟩ := hb3
  have hb2 : t < cx.n := by simpa using hb2
  have hb3 : x < cx.n := by simpa using hb3
  subst hb1
  obtain ⟨s, h1, h2⟩ := pick_bind _ _ _ h
  have hle : cap'.length ≤ gn.ntmps := by rw [← ha.1, hn]; exact Nat.le_of_ble_eq_true hble
  have hops' : ops = #[r, m] := by cases ops; simp at hops; rw [hops]
  refine callsD_of_wpS hg hb (fun c₀ cs hc0 => ?_)
  have hsz : ((⟨cap'⟩ : Array Value) ++ Array.replicate (gn.ntmps - (⟨cap'⟩ : Array Value).size) undef).size = cx.n := by simp [hn]; omega
  have hrec : ∃ u'', settle u'' = .returning ∧ ∀ (K : Value → List Frame → Prop), K v' ({ c₀ with mode := u'' } :: cs) → (match recoverD (c₀ :: cs) with | some (y, cs') => K y cs' | none => K .nilIface (c₀ :: cs)) := by
    rcases hu with ⟨e1, e2⟩ | e1
    · refine ⟨u, by rw [e1]; rfl, fun K hK => ?_⟩
      have e : ({ c₀ with mode := u } : Frame) = c₀ := by subst hc0; rfl
      rw [e, e2] at hK
      simp only [recoverD, hc0, e1]; exact hK
    · refine ⟨.panicking [{ v := v', recovered := true }], rfl, fun K hK => ?_⟩
      simp only [recoverD, hc0, e1]; exact hK
  obtain ⟨u'', hu1, hu2⟩ := hrec
  refine wpS_seq (wpS_region ?_)
  rw [hops']
  generalize ha0 : ({ tmps := (⟨cap'⟩ : Array Value) ++ Array.replicate (gn.ntmps - (⟨cap'⟩ : Array Value).size) undef, defers := [] } : Act) = a0
  have hV0 : EnvR E H.length (argEnv 0 cap) a0 := by rw [← ha0]; exact argEnv_rel ha hle
  have hz0 : a0.tmps.size = cx.n := by rw [← ha0]; exact hsz
  have hd0 : a0.defers = [] := by rw [← ha0]
  have e1 : (execOp a0.eval r).run cx.P w = .ok .recover w := by
    simp [execOp, hr1, resolve, invoke, builtin]
  show wpOpsS cx.P #[r, m] _ [0, 1] a0 (c₀ :: cs) w
  unfold wpOpsS
  simp only [List.getElem?_toArray, List.getElem?_cons_zero, Region.wanted, hr2, if_true, e1, hr3]
  refine hu2 (fun y cs' => wpOpsS cx.P #[r, m] _ [1] (a0.put (some t) y) cs' w) ?_
  have hz1 : (a0.put (some t) v').tmps.size = cx.n := by simpa [Act.put] using hz0
  have e2 : (execOp (a0.put (some t) v').eval m).run cx.P w = .ok (.value v') w := by
    simp only [execOp, hm1]
    rw [act_put_tmp (by omega)]
    rfl
  unfold wpOpsS
  simp only [List.getElem?_toArray, List.getElem?_cons_succ, List.getElem?_cons_zero, Region.wanted, hm2, if_true, e2, hm3, Oper.upon]
  unfold wpOpsS
  have hV1 := put_env hV0 hv (by rw [hz0]; exact hb2)
  have hV2 := put_env hV1 hv (t := x) (by rw [hz1]; exact hb3)
  have hd2 : ((a0.put (some t) v').put (some x) v').defers = [] := by rw [← hd0]; rfl
  have hz2 : ((a0.put (some t) v').put (some x) v').tmps.size = cx.n := by simpa [Act.put] using hz1
  have fin : ∀ (st : St T) (o : CallOut T) (a' : Act) (w' : World) (E' : Emb), (retOut cx gn H st).pick = some o → o = out → a'.defers = ((a0.put (some t) v').put (some x) v').defers → CR cx (keepsOf H) E w H [] E' st a' w' →
      bodyPostS cx.P gn c₀ cs (fun e u' w' => ∃ r, e = .returned r ∧ settle u' = .returning ∧ CallR cx.glob E H w out (.returned r) w') .ret a' ({ c₀ with mode := u'' } :: cs) w' := by
    intro st o a' w' E' ho heq hd hc
    subst heq
    obtain ⟨_, y, h3, h4⟩ := retOut_sound hS hc ho hok
    exact ⟨hd.trans hd2, u'', rfl, y, h3, y, rfl, hu1, h4⟩
  refine wpS_of_wp ?_
  cases s with
  | ret st =>
    exact runU_sound hC hD hDL (keepsOf H) h1 (retOut_ok h2 hok) (CR.begin hS hV2 hz2 rfl rfl) (fun a' w' E' hd hc => fin st out a' w' E' h2 rfl hd hc)
  | done st =>
    exact runU_sound hC hD hDL (keepsOf H) h1 (retOut_ok h2 hok) (CR.begin hS hV2 hz2 rfl rfl) (fun a' w' E' hd hc => fin st out a' w' E' h2 rfl hd hc)
  | pan v st => exact (pick_fail h2).elim
  | exit i st => exact (pick_fail h2).elim
  | cut l st => exact (pick_fail h2).elim
theorem afterD_sound {fn : Func} {E : Emb} {w : World} {H : List (Ob T)} (hS : Sim cx.glob E H w) {E' : Emb} {st : St T} {a : Act} {w' : World} (hc : CR cx (keepsOf H) E w H [] E' st a w') {o out : CallOut T} (h : (afterD cx fn H st o).pick = some out) (hok : out.ok = true)
    {r : Value} {w'' : World} (ho : CallR cx.glob E' st.heap w' o (.returned r) w'') : ∃ v, (results fn a.tmps).run cx.P w'' = .ok v w'' ∧ CallR cx.glob E H w out (.returned v) w'' := by
  cases o with
  | pan => exact (pick_fail h).elim
  | ret x H' D ok =>
    simp only [afterD] at h
    obtain ⟨E'', _, hs⟩ := ho
    have hs' : Stp cx.glob E' st w' E'' { st with heap := H', dirty := D ++ st.dirty, ok := st.ok && ok } w'' := hs.of rfl rfl (fun id hid => by simp at hid; simp [hid]) (fun id hid => by simp [hid]) rfl
    have hc' := hc.step (a' := a) hs' ⟨hs'.sim, hc.str.env.mono hs'.agr hs'.len, hc.str.size⟩
    exact (retOut_sound hS hc' h hok).2
theorem afterD_ok {fn : Func} {H : List (Ob T)} {st : St T} {o out : CallOut T} (h : (afterD cx fn H st o).pick = some out) (hok : out.ok = true) : st.ok = true ∧ o.ok = true := by
  cases o with
  | pan => exact (pick_fail h).elim
  | ret x H' D ok =>
    have := retOut_ok h hok
    simpa [CallOut.ok] using this
theorem capOf_sound {E : Emb} {N : Nat} {g : FuncId} {v v' : Value} {cap : List Value} (h : capOf g v = some cap) (hv : VR E N v v') : ∃ cs' : Array Value, v' = .func (.func g) #[] cs' ∧ PW E N cap cs'.toList := by
  unfold capOf at h
  split at h
  · rename_i f fs cs
    split at h
    · rename_i hb hf
      simp at h; subst h
      have := Nat.eq_of_beq_eq_true hb; subst this
      cases hv with
      | scal _ hs => simp [scalar] at hs
      | func _ _ fs' _ cs' h1 h2 h3 h4 =>
        have : fs.size = 0 := by cases fs; simp at hf; simp [hf]
        have e : fs' = #[] := Array.eq_empty_of_size_eq_zero (by omega)
        subst e
        exact ⟨cs', rfl, by simpa using h3, fun i x x' hx hx' => h4 i x x' (by simpa using hx) (by simpa using hx')⟩
    · cases h
  · cases h
theorem dfrC_sound (hC : CallOK cx) (hD : RgDraw cx) (hDL : RgDrawLvl cx) {f g : FuncId} {fn : Func} {k : Nat} (hf : cx.P.funcs[f]? = some fn) (hn : fn.ntmps = cx.n) (hg : there cx.P g = true)
    {clos : List Value → Value → List (Ob T) → Tr (CallOut T)}
    (hcl : ∀ (cap : List Value) (v : Value) (H : List (Ob T)) (out : CallOut T), (clos cap v H).pick = some out → out.ok = true → ∀ (E : Emb) (w : World) (cap' : List Value), PW E H.length cap cap' → Sim cx.glob E H w → ∀ (u : FrameMode) (v' : Value), VR E H.length v v' →
      (u = .returning ∧ v' = .nilIface) ∨ u = .panicking [{ v := v', recovered := false }] → CallsD cx.P g ⟨cap'⟩ u w (fun e u' w' => ∃ r, e = .returned r ∧ settle u' = .returning ∧ CallR cx.glob E H w out (.returned r) w'))
    {args : List Value} {H : List (Ob T)} {out : CallOut T} (h : (dfrC cx fn k g clos args H).pick = some out) (hok : out.ok = true)
    {E : Emb} {w : World} {args' : List Value} (ha : PW E H.length args args') (hS : Sim cx.glob E H w) : Calls cx.P f ⟨args'⟩ w (CallR cx.glob E H w out) := by
  unfold dfrC at h
  split at h
  case h_2 => exact (pick_fail h).elim
  rename_i r0 id ops rest hb
  split at h
  case h_2 => exact (pick_fail h).elim
  rename_i m d hops hble
  split at h
  case h_2 => exact (pick_fail h).elim
  rename_i x aas ats hd1 hd2 hd3
  split at h
  case h_2 => exact (pick_fail h).elim
  rename_i has
  obtain ⟨s0, q1, h⟩ := pick_bind _ _ _ h
  split at h
  case h_2 => exact (pick_fail h).elim
  rename_i st1
  obtain ⟨s1, q2, h⟩ := pick_bind _ _ _ h
  split at h
  case h_2 => exact (pick_fail h).elim
  rename_i st2
  split at h
  case h_2 => exact (pick_fail h).elim
  rename_i cap hcap
  obtain ⟨s, q3, q4⟩ := pick_bind _ _ _ h
  have hle : args'.length ≤ fn.ntmps := by rw [← ha.1, hn]; exact Nat.le_of_ble_eq_true hble
  have hops' : ops = #[m, d] := by cases ops; simp at hops; rw [hops]
  have has' : aas = #[] := by cases aas; simp at has; rw [has]
  subst hops'; subst has'
  have hsok : s.state.ok = true := by
    have one : ∀ (v : Value) (st : St T), ((clos cap v st.heap).bind (afterD cx fn H st)).pick = some out → st.ok = true := fun v st hp => by
      obtain ⟨o, _, h2⟩ := pick_bind _ _ _ hp
      exact (afterD_ok h2 hok).1
    cases s with
    | done st => exact one _ (overS st2 st) q4
    | ret st => exact one _ (overS st2 st) q4
    | pan v st => exact one _ (overS st2 st) q4
    | exit i st => exact (pick_fail q4).elim
    | cut l st => exact (pick_fail q4).elim
  have h2ok : st2.ok = true := runU_ok (st := { st2 with dirty := [] }) hDL _ q3 hsok
  have hz : ((⟨args'⟩ : Array Value) ++ Array.replicate (fn.ntmps - (⟨args'⟩ : Array Value).size) undef).size = cx.n := by simp [hn]; omega
  refine calls_of_wp_defers hf hb ?_
  obtain ⟨gn, g1, g2, g3⟩ := there_fn hg
  have fin : ∀ (v v' : Value) (u : FrameMode) (cs' : Array Value) (st : St T) (E' : Emb) (a' : Act) (w' : World), u ≠ .run → ((clos cap v st.heap).bind (afterD cx fn H st)).pick = some out → PW E' st.heap.length cap cs'.toList → VR E' st.heap.length v v' →
      (u = .returning ∧ v' = .nilIface) ∨ u = .panicking [{ v := v', recovered := false }] → CR cx (keepsOf H) E w H [] E' st a' w' →
      Leaves cx.P fn a'.tmps (CallR cx.glob E H w out) [{ target := .fn (.func g) cs', args := #[] }] u w' := by
    intro v v' u cs' st E' a' w' hu hp hpw hvr hcase hc
    obtain ⟨o, o1, o2⟩ := pick_bind _ _ _ hp
    have hook := (afterD_ok o2 hok).2
    have hcall := hcl cap v st.heap o o1 hook E' w' cs'.toList hpw hc.str.sim u v' hvr hcase
    have hcall : CallsD cx.P g cs' u w' _ := hcall
    refine leaves_cons (args := cs') hu ?_ (hcall.mono ?_)
    · simp only [invoke, callFunc, Sem.run_bind, run_program, Result.andThen_ok, g1, g2, g3, Array.empty_append]
      rfl
    · rintro e u' w'' ⟨r, rfl, hset, hR⟩
      show Leaves cx.P fn a'.tmps (CallR cx.glob E H w out) [] (settle u') w''
      rw [hset]
      exact afterD_sound hS hc o2 hok hR
  have hok1 : st1.ok = true := oneOp_ok q2 h2ok
  refine wp_seq ?_
  refine runC_sound hC hD hDL (keepsOf H) r0 (CR.begin hS (argEnv_rel ha hle) hz rfl rfl) q1 hok1 ?_
  intro a1 w1 E1 hd1' hc1 _
  refine wp_seq (wp_region ?_)
  show wpOps cx.P #[m, d] _ [0, 1] a1 w1
  rw [wpOps_cons]
  obtain ⟨_, _, g3'⟩ := oneOp_sound hc1.str hC (ops := #[m, d]) (i := 0) rfl q2 h2ok
  refine g3' _ _ ?_
  intro a2 w2 E2 hd2' hr2 hs2
  have hc2 := hc1.step hs2 hr2
  obtain ⟨cs', hx, hpw⟩ := capOf_sound hcap (ev_rel hc2.str.sim hc2.str.env x)
  rw [wpOps_cons]
  have e : (execOp a2.eval d).run cx.P w2 = .ok (.defer { target := .fn (.func g) cs', args := #[] }) w2 := by
    simp [execOp, hd1, resolve, hx, Deferred.ofValue]
  unfold wpOp
  simp only [List.getElem?_toArray, List.getElem?_cons_succ, List.getElem?_cons_zero, Region.wanted, hd2, if_true]
  refine .inl ?_
  unfold Oper.wp
  rw [e]
  simp only [Oper.upon, hd3]
  unfold wpOps
  show rest.wp cx.P _ _ w2
  have hdef : ({ a2 with defers := { target := .fn (.func g) cs', args := #[] } :: a2.defers }.put none undef : Act).defers = [{ target := .fn (.func g) cs', args := #[] }] := by
    show _ :: a2.defers = _
    rw [hd2', hd1']
  have hc3 : CR cx (keepsOf H) E w H [] E2 st2 ({ a2 with defers := { target := .fn (.func g) cs', args := #[] } :: a2.defers }.put none undef) w2 := by
    refine ⟨⟨hc2.str.sim, hc2.str.env, hc2.str.size⟩, hc2.par, hc2.frame, hc2.loc, hc2.os, hc2.tape, hc2.out, hc2.size, hc2.le, hc2.pin, hc2.old, hc2.gl⟩
  generalize ({ a2 with defers := { target := .fn (.func g) cs', args := #[] } :: a2.defers }.put none undef : Act) = a3 at hdef hc3
  have hS2 := hc3.str.sim
  have over : ∀ (st : St T) (E' : Emb) (a' : Act) (w' : World), CR cx (keepsOf st2.heap) E2 w2 st2.heap [] E' st a' w' → CR cx (keepsOf H) E w H [] E' (overS st2 st) a' w' ∧ PW E' (overS st2 st).heap.length cap cs'.toList ∧ (overS st2 st).heap.length = st.heap.length := by
    intro st E' a' w' hcN
    obtain ⟨hl, hstp⟩ := hcN.stp hS2
    have hlen : (overS st2 st).heap.length = st.heap.length := unmask_len _ _ _ hl
    have hstp' : Stp cx.glob E2 st2 w2 E' (overS st2 st) w' := hstp.of rfl rfl (fun id hid => by simp [overS]; exact .inl (belowN_sub hid)) (fun id hid => by simp [overS, hid]) rfl
    refine ⟨hc3.step hstp' ⟨hstp'.sim, by rw [hlen]; exact hcN.str.env, hcN.str.size⟩, hpw.mono hstp'.agr hstp'.len, hlen⟩
  refine runU_sound hC hD hDL (keepsOf st2.heap) q3 hsok (CR.begin hS2 hc3.str.env hc3.str.size rfl rfl) ?_
  cases s with
  | done st =>
    intro a' w' E' hd hcN
    obtain ⟨c1, c2, c3⟩ := over st E' a' w' hcN
    show Leaves cx.P fn a'.tmps _ a'.defers .returning w'
    rw [hd, hdef]
    exact fin .nilIface .nilIface .returning cs' (overS st2 st) E' a' w' (by simp) q4 c2 (.scal _ rfl) (.inl ⟨rfl, rfl⟩) c1
  | ret st =>
    intro a' w' E' hd hcN
    obtain ⟨c1, c2, c3⟩ := over st E' a' w' hcN
    show Leaves cx.P fn a'.tmps _ a'.defers .returning w'
    rw [hd, hdef]
    exact fin .nilIface .nilIface .returning cs' (overS st2 st) E' a' w' (by simp) q4 c2 (.scal _ rfl) (.inl ⟨rfl, rfl⟩) c1
  | pan v st =>
    intro v' a' w' E' hd hcN hv
    obtain ⟨c1, c2, c3⟩ := over st E' a' w' hcN
    show Leaves cx.P fn a'.tmps _ a'.defers (.panicking [{ v := v', recovered := false }]) w'
    rw [hd, hdef]
    exact fin v v' _ cs' (overS st2 st) E' a' w' (by simp) q4 c2 (by rw [c3]; exact hv) (.inr rfl) c1
  | exit i st => exact (pick_fail q4).elim
  | cut l st => exact (pick_fail q4).elim
theorem findD_mem : ∀ {l : List Dfr} {f : FuncId} {e : Dfr}, findD l f = some e → e.i.f = f ∧ ∀ P, dfrThere P l = true → there P e.i.f = true ∧ there P e.j.f = true
  | [], f, e, h => by cases h
  | x :: r, f, e, h => by
    simp only [findD] at h
    split at h
    · rename_i hb
      simp at h; subst h
      exact ⟨Nat.eq_of_beq_eq_true hb, fun P hp => by simp [dfrThere] at hp; exact ⟨hp.1, hp.2.1⟩⟩
    · obtain ⟨h1, h2⟩ := findD_mem h
      exact ⟨h1, fun P hp => by simp [dfrThere] at hp; exact h2 P hp.2.2⟩
theorem callD_ok (hm : cx.P.follows .mixedOrders = true) (hC : CallOK cx) {inl : List Inl} (hi : inlThere cx.P inl = true) {dfr : List Dfr} (hd : dfrThere cx.P dfr = true) : ∀ (d : Nat) (cx' : Cx T), cx'.P = cx.P → cx'.glob = cx.glob → cx'.call = callD cx inl dfr d → CallOK cx'
  | 0, cx', h1, h2, h3 => by
    intro f args H out hp hok hle E w args' ha hS
    rw [h3] at hp
    rw [h2] at hS
    rw [h1, h2]
    exact hC f args H out hp hok hle E w args' ha hS
  | d + 1, cx', h1, h2, h3 => by
    intro f args H out hp hok hle E w args' ha hS
    rw [h3] at hp
    rw [h2] at hS
    rw [h1, h2]
    simp only [callD] at hp
    split at hp
    · rename_i e he
      obtain ⟨rfl, ht⟩ := findI_mem he
      split at hp
      · exact (pick_fail hp).elim
      · rename_i fn hf
        refine .inl ⟨there_fn (ht _ hi), ?_⟩
        have ih := callD_ok hm hC hi hd d (cx.inn fn.ntmps e (callD cx inl dfr d)) rfl rfl rfl
        exact inlC_sound (cx := cx.inn fn.ntmps e (callD cx inl dfr d)) ih (rgDraw hm ih) rgDrawLvl hf rfl hp hok ha hS
    · split at hp
      · rename_i e he
        obtain ⟨rfl, ht⟩ := findD_mem he
        obtain ⟨t1, t2⟩ := ht _ hd
        split at hp
        · rename_i fn gn hf hg
          refine .inl ⟨there_fn t1, ?_⟩
          have ih := callD_ok hm hC hi hd d (cx.inn fn.ntmps e.i (callD cx inl dfr d)) rfl rfl rfl
          have ihg := callD_ok hm hC hi hd d (cx.inn gn.ntmps e.j (callD cx inl dfr d)) rfl rfl rfl
          exact dfrC_sound (cx := cx.inn fn.ntmps e.i (callD cx inl dfr d)) ih (rgDraw hm ih) rgDrawLvl hf rfl t2
            (fun cap v H out hp hok E w cap' ha hS u v' hv hu => closC_sound (cx := cx.inn gn.ntmps e.j (callD cx inl dfr d)) ihg (rgDraw hm ihg) rgDrawLvl hg rfl hp hok ha hS hv hu) hp hok ha hS
        · exact (pick_fail hp).elim
      · exact hC f args H out hp hok hle E w args' ha hS
end
end Go.Proofs.YtklpneeakhbahaaGreatDoor.Ls
end
section
set_option linter.unusedVariables false
set_option linter.unusedSimpArgs false
namespace Go.Proofs.YtklpneeakhbahaaGreatDoor.Ls
open Go
noncomputable section
variable {T : TypeId → VS}
def onAlts (cx : Cx T) (g : Sig) (L : List It → St T → Res T g) (todo : List It) (st : St T) (key : Nat) : List (Nat × SS) → Res T g
  | [] => .bad g
  | (j, s) :: r => match Nat.beq j key with
    | true => match s.dec cx.glob g.eff st with
      | some v => ⟨st.ok && (L todo (s.st 0 v)).ok, (L todo (s.st 0 v)).pan, (L todo (s.st 0 v)).ret, (L todo (s.st 0 v)).out, (L todo (s.st 0 v)).pv⟩
      | none => onAlts cx g L todo st key r
    | false => onAlts cx g L todo st key r
def onCutU (cx : Cx T) (g : Sig) (un : List Nat) (L : List It → St T → Res T g) (todo : List It) (st : St T) : Res T g :=
  match memN (keyOf todo) un with
  | true => L todo st
  | false => onAlts cx g L todo st (keyOf todo) cx.cuts
def loopG (cx : Cx T) (g : Sig) (fn : Func) (un : List Nat) : Nat → List It → St T → Res T g
  | 0, _, _ => .bad g
  | k + 1, todo, st => finishT cx g fn (onCutU cx g un (loopG cx g fn un k)) (roundL cx g.eff todo st)
def bodyG (cx : Cx T) (g : Sig) (fn : Func) (un : List Nat) (k : Nat) (a : g.args.ty) (h : tysO T g.hp) : Res T g :=
  match fn.body with
  | some c => finishT cx g fn (onCutU cx g un (loopG cx g fn un k)) (runC cx g.eff c (st0 g a h))
  | none => .bad g
def todoC (key : Nat) : Code → Option (List It)
  | .seq a b => match todoC key a with | some l => some (l ++ [.code b]) | none => todoC key b
  | .cond _ a b => match todoC key a with | some l => some l | none => todoC key b
  | .block id a => match todoC key a with | some l => some (l ++ [.inBlock id]) | none => none
  | .loop a => match Nat.beq (keyC a) key with
    | true => some [.loop a]
    | false => match todoC key a with | some l => some (l ++ [.loop a]) | none => none
  | _ => none
def todoF (fn : Func) (key : Nat) : List It := match fn.body with | some c => (match todoC key c with | some l => l | none => []) | none => []
def Tr.orE {α : Type} : Tr α → (Unit → Tr α) → Tr α
  | .fail, f => f ()
  | .leaf a, _ => .leaf a
  | .node b t e, _ => .node b t e
def callT2 (glob : Nat → Option (Ob T)) : List (Ent T) → FuncId → List Value → List (Ob T) → Tr (CallOut T)
  | [], _, _, _ => .fail
  | e :: r, f, args, H => match Nat.beq e.f f with
    | true => (wrap glob e.g e.F args H).orE fun _ => callT2 glob r f args H
    | false => callT2 glob r f args H
end
section
variable {T : TypeId → VS} {cx : Cx T}
theorem onAlts_sound {g : Sig} {fn : Func} {E0 : Emb} {w0 : World} {H0 : List (Ob T)} {L : List It → St T → Res T g}
    (hL : ∀ todo st, (L todo st).ok = true → ∀ E a w, CR cx g.eff E0 w0 H0 [] E st a w → a.defers = [] → postK cx.P todo (bodyPost cx.P fn (EndOK cx.glob g E0 w0 H0 (L todo st))) .normal a w) (todo : List It) (st : St T) (key : Nat) :
    ∀ (l : List (Nat × SS)), (onAlts cx g L todo st key l).ok = true → st.ok = true ∧ ∀ E a w, CR cx g.eff E0 w0 H0 [] E st a w → a.defers = [] → postK cx.P todo (bodyPost cx.P fn (EndOK cx.glob g E0 w0 H0 (onAlts cx g L todo st key l))) .normal a w
  | [], hok => by simp [onAlts, Res.bad] at hok
  | (j, s) :: r, hok => by
    unfold onAlts at hok ⊢
    split
    · rename_i hb
      rw [hb] at hok
      simp only at hok
      split
      · rename_i v hv
        rw [hv] at hok
        simp at hok
        refine ⟨hok.1, fun E a w hc hd => ?_⟩
        obtain ⟨E', hc'⟩ := SS_dec_sound hc hv 0
        exact hL todo (s.st 0 v) hok.2 E' a w hc' hd
      · rename_i hv
        rw [hv] at hok
        exact onAlts_sound hL todo st key r hok
    · rename_i hb
      rw [hb] at hok
      exact onAlts_sound hL todo st key r hok
theorem onCutU_sound {g : Sig} {fn : Func} {un : List Nat} {E0 : Emb} {w0 : World} {H0 : List (Ob T)} {L : List It → St T → Res T g}
    (hL : ∀ todo st, (L todo st).ok = true → st.ok = true ∧ ∀ E a w, CR cx g.eff E0 w0 H0 [] E st a w → a.defers = [] → postK cx.P todo (bodyPost cx.P fn (EndOK cx.glob g E0 w0 H0 (L todo st))) .normal a w) : KOK cx g fn E0 w0 H0 (onCutU cx g un L) := by
  intro todo st hok
  unfold onCutU at hok ⊢
  split
  · rename_i h
    rw [h] at hok
    exact hL todo st hok
  · rename_i h
    rw [h] at hok
    exact onAlts_sound (fun todo st hok E a w => (hL todo st hok).2 E a w) todo st _ _ hok
theorem loopG_sound (hC : CallOK cx) (hD : RgDraw cx) (hDL : RgDrawLvl cx) {g : Sig} {fn : Func} {un : List Nat} {E0 : Emb} {w0 : World} {H0 : List (Ob T)} : ∀ (k : Nat) (todo : List It) (st : St T), (loopG cx g fn un k todo st).ok = true → st.ok = true ∧ ∀ E a w, CR cx g.eff E0 w0 H0 [] E st a w → a.defers = [] →
    postK cx.P todo (bodyPost cx.P fn (EndOK cx.glob g E0 w0 H0 (loopG cx g fn un k todo st))) .normal a w
  | 0, todo, st, h => by simp [loopG, Res.bad] at h
  | k + 1, todo, st, h => by
    simp only [loopG] at h ⊢
    obtain ⟨s, h1, h2⟩ := finishT_pick _ h
    rw [h2] at h ⊢
    obtain ⟨h3, h4⟩ := stop_sound (onCutU_sound (loopG_sound hC hD hDL k)) h
    refine ⟨roundL_ok hDL g.eff h1 h3, fun E a w hc hd => ?_⟩
    exact roundL_sound hC hD hDL g.eff hc h1 h3 (h4 E st a w hd)
theorem bodyG_sound (hm : cx.P.follows .mixedOrders = true) (hC : CallOK cx) {g : Sig} {f : FuncId} {fn : Func} {un : List Nat} (hf : cx.P.funcs[f]? = some fn) (hn : fn.ntmps = cx.n) (ha : Nat.ble g.args.len cx.n = true) (he : effOk g.eff g.hp = true)
    (kf : g.args.ty → tysO T g.hp → Nat) : FOK cx.P cx.glob f g (fun a h => bodyG cx g fn un (kf a h) a h) := by
  intro a h hok E0 w0 args' hargs hS
  have hD := rgDraw hm hC
  have hDL := rgDrawLvl (cx := cx)
  have he' := he
  have he := (effOk_spec he).1
  have hlen := encO_len (T := T) g.hp h
  have hal : args'.length = g.args.len := by rw [← hargs.1, enc_len_true]; rfl
  simp only at hok ⊢
  generalize kf a h = k at hok ⊢
  unfold bodyG at hok ⊢
  split
  · rename_i c hb
    rw [hb] at hok
    simp only at hok
    obtain ⟨s, h1, h2⟩ := finishT_pick _ hok
    rw [h2] at hok ⊢
    obtain ⟨h3, h4⟩ := stop_sound (onCutU_sound (loopG_sound hC hD hDL k)) hok
    refine calls_of_wp hf hb ?_
    have hle : args'.length ≤ cx.n := by rw [hal]; exact Nat.le_of_ble_eq_true ha
    refine runC_sound hC hD hDL g.eff c (E0 := E0) (w0 := w0) (H0 := encO rid g.hp h) (G := []) (E := E0) ⟨⟨hS, ?_, ?_⟩, fun _ _ => rfl, fun _ _ _ => rfl, ?_, rfl, rfl, rfl, Nat.le_refl _, ?_, ?_, fun _ _ => ⟨fun h => h, fun h => h⟩, fun _ _ => rfl⟩ h1 h3 (h4 E0 _ _ _ rfl)
    · show EnvR E0 (encO rid g.hp h).length (argEnv 0 (g.args.enc rid true a [])) _
      rw [hlen]
      exact argEnv_rel hargs (by rw [hn]; exact hle)
    · simp [hn]; omega
    · intro id hid hst hlv
      have hid : id < g.eff.length := by rw [he, ← hlen]; exact hid
      exact .inr ⟨id, hid, .inl hst, kill_live he' hS hst hid hlv, rfl⟩
    · rw [he, ← hlen]; exact hS.le
    · intro p hp
      show p < (encO rid g.hp h).length
      rw [hlen, ← he]; exact stays_lt hp
  · rename_i hb; rw [hb] at hok; simp [Res.bad] at hok
theorem orE_pick {α : Type} {t : Tr α} {f : Unit → Tr α} {a : α} (h : (t.orE f).pick = some a) : t.pick = some a ∨ (f ()).pick = some a := by
  cases t with
  | fail => exact .inr h
  | leaf x => exact .inl h
  | node b t e => exact .inl h
theorem callT2_pick {P : Program} {glob : Nat → Option (Ob T)} {f : FuncId} {args : List Value} {H : List (Ob T)} {out : CallOut T} : ∀ (l : List (Ent T)), TblOK P glob l → (callT2 glob l f args H).pick = some out →
    ∃ e : Ent T, e.f = f ∧ there P e.f = true ∧ FOK P glob e.f e.g e.F ∧ (wrap glob e.g e.F args H).pick = some out
  | [], _, h => (pick_fail h).elim
  | e :: r, ht, h => by
    simp only [callT2] at h
    split at h
    · rename_i hb
      rcases orE_pick h with h | h
      · exact ⟨e, Nat.eq_of_beq_eq_true hb, ht.1.1, ht.1.2, h⟩
      · exact callT2_pick r ht.2 h
    · exact callT2_pick r ht.2 h
theorem callT2_ok {l : List (Ent T)} (hl : TblOK cx.P cx.glob l) (hc : cx.call = callT2 cx.glob l) : CallOK cx := by
  intro f args H out hp hok hle E w args' hargs hS
  rw [hc] at hp
  obtain ⟨e, rfl, h1, h2, h3⟩ := callT2_pick l hl hp
  exact .inl ⟨there_fn h1, wrap_sound h2 h3 hok hle hargs hS⟩
end
end Go.Proofs.YtklpneeakhbahaaGreatDoor.Ls
end
section
set_option linter.unusedVariables false
set_option linter.unusedSimpArgs false
namespace Go.Proofs.YtklpneeakhbahaaGreatDoor.Ls
open Go
noncomputable section
variable {T : TypeId → VS}
def extC (sub : Bool) (args : List Value) (H : List (Ob T)) : Tr (CallOut T) :=
  match args with
  | [.int .u64 x, .int .u64 y, .int .u64 c] => match sub with
    | false => .leaf (.ret (.tuple #[.int .u64 (((x.toNat + y.toNat + c.toNat) % 18446744073709551616 : Nat) : Int), .int .u64 (((x.toNat + y.toNat + c.toNat) / 18446744073709551616 : Nat) : Int)]) H [] (Nat.ble c.toNat 1))
    | true => .leaf (.ret (.tuple #[.int .u64 (((x.toNat + 18446744073709551616 - y.toNat - c.toNat) % 18446744073709551616 : Nat) : Int), .int .u64 (((bif Nat.blt x.toNat (y.toNat + c.toNat) then 1 else 0 : Nat)) : Int)]) H [] (Nat.ble c.toNat 1))
  | _ => .fail
def findX : List (FuncId × Bool) → FuncId → Option Bool
  | [], _ => none
  | (g, s) :: r, f => match Nat.beq g f with | true => some s | false => findX r f
def callX (ext : List (FuncId × Bool)) (base : FuncId → List Value → List (Ob T) → Tr (CallOut T)) (f : FuncId) (args : List Value) (H : List (Ob T)) : Tr (CallOut T) :=
  match findX ext f with
  | some s => extC s args H
  | none => base f args H
def sub64E : Array Value → Sem Value := fun args => do
  let (x, y, b) ← Extern.MathBitsCarry.three "Sub64" args
  pure (Extern.MathBitsCarry.pair ((x + Extern.MathBitsCarry.m64 - y - b) % Extern.MathBitsCarry.m64) (if x < y + b then 1 else 0))
def ExtOK (P : Program) : List (FuncId × Bool) → Prop
  | [] => True
  | (f, s) :: r => (∃ fn, P.funcs[f]? = some fn ∧ (fn.name == "runtime.NumGoroutine") = false ∧ fn.body.isNone = true ∧ Extern.findNext fn = none ∧ Extern.find fn = some (match s with | true => sub64E | false => add64Entry)) ∧ ExtOK P r
end
section
variable {T : TypeId → VS} {cx : Cx T}
theorem extC_sound {P : Program} {f : FuncId} {s : Bool} {fn : Func} (h1 : P.funcs[f]? = some fn) (h2 : (fn.name == "runtime.NumGoroutine") = false) (h3 : fn.body.isNone = true) (h4 : Extern.findNext fn = none) (h5 : Extern.find fn = some (match s with | true => sub64E | false => add64Entry))
    {glob : Nat → Option (Ob T)} {args : List Value} {H : List (Ob T)} {out : CallOut T} (h : (extC s args H).pick = some out) (hok : out.ok = true) {E : Emb} {w : World} {args' : List Value} (ha : PW E H.length args args') (hS : Sim glob E H w) :
    ∃ v', (callFunc f ⟨args'⟩).run P w = .ok (.value v') w ∧ CallR glob E H w out (.returned v') w := by
  unfold extC at h
  split at h
  case h_2 => exact (pick_fail h).elim
  rename_i x y c
  have e : args' = [.int .u64 x, .int .u64 y, .int .u64 c] := by
    obtain ⟨u1, r1, rfl, a1, ha⟩ := ha.inv_cons
    obtain ⟨u2, r2, rfl, a2, ha⟩ := ha.inv_cons
    obtain ⟨u3, r3, rfl, a3, ha⟩ := ha.inv_cons
    have := ha.inv_nil; subst this
    rw [a1.scalar_eq rfl, a2.scalar_eq rfl, a3.scalar_eq rfl]
  subst e
  have fin : ∀ (a b : Int), VR E H.length (.tuple #[.int .u64 a, .int .u64 b]) (.tuple #[.int .u64 a, .int .u64 b]) := fun a b => VR.tup_mk (.cons (.scal _ rfl) (.cons (.scal _ rfl) .nil))
  rw [run_callFunc_extern h1 h2 h3 h4 h5]
  cases s with
  | false =>
    have := pick_leaf h; subst this
    have hc : c.toNat ≤ 1 := Nat.le_of_ble_eq_true hok
    refine ⟨_, ?_, E, fin _ _, Stp.refl hS⟩
    have hr : (add64Entry #[.int .u64 x, .int .u64 y, .int .u64 c]).run P w = .ok (Extern.MathBitsCarry.pair ((x.toNat + y.toNat + c.toNat) % Extern.MathBitsCarry.m64) ((x.toNat + y.toNat + c.toNat) / Extern.MathBitsCarry.m64)) w := by
      match c, hc with
      | .ofNat 0, _ => rfl
      | .ofNat 1, _ => rfl
      | .ofNat (n + 2), hc => exact absurd (show n + 2 ≤ 1 from hc) (by omega)
      | .negSucc n, _ => rfl
    simp only [hr, Result.andThen]
    rfl
  | true =>
    have := pick_leaf h; subst this
    have hc : c.toNat ≤ 1 := Nat.le_of_ble_eq_true hok
    refine ⟨_, ?_, E, fin _ _, Stp.refl hS⟩
    have hr : (sub64E #[.int .u64 x, .int .u64 y, .int .u64 c]).run P w = .ok (Extern.MathBitsCarry.pair ((x.toNat + Extern.MathBitsCarry.m64 - y.toNat - c.toNat) % Extern.MathBitsCarry.m64) (if x.toNat < y.toNat + c.toNat then 1 else 0)) w := by
      match c, hc with
      | .ofNat 0, _ => rfl
      | .ofNat 1, _ => rfl
      | .ofNat (n + 2), hc => exact absurd (show n + 2 ≤ 1 from hc) (by omega)
      | .negSucc n, _ => rfl
    simp only [hr, Result.andThen]
    have e2 : (bif Nat.blt x.toNat (y.toNat + c.toNat) then 1 else 0 : Nat) = if x.toNat < y.toNat + c.toNat then 1 else 0 := by
      by_cases hb : x.toNat < y.toNat + c.toNat
      · rw [if_pos hb]; simp [Nat.blt, show Nat.ble (x.toNat + 1) (y.toNat + c.toNat) = true from Nat.ble_eq_true_of_le hb]
      · rw [if_neg hb]
        have : Nat.blt x.toNat (y.toNat + c.toNat) = false := by
          cases hx : Nat.blt x.toNat (y.toNat + c.toNat) with
          | false => rfl
          | true => exact absurd (Nat.le_of_ble_eq_true hx) hb
        rw [this]; rfl
    rw [e2]; rfl
theorem findX_ok {P : Program} : ∀ {l : List (FuncId × Bool)} {f : FuncId} {s : Bool}, ExtOK P l → findX l f = some s → ∃ fn, P.funcs[f]? = some fn ∧ (fn.name == "runtime.NumGoroutine") = false ∧ fn.body.isNone = true ∧ Extern.findNext fn = none ∧ Extern.find fn = some (match s with | true => sub64E | false => add64Entry)
  | [], f, s, _, h => by cases h
  | (g, s') :: r, f, s, hl, h => by
    simp only [findX] at h
    split at h
    · rename_i hb
      simp at h; subst h
      have := Nat.eq_of_beq_eq_true hb; subst this
      exact hl.1
    · exact findX_ok hl.2 h
theorem callX_ok {ext : List (FuncId × Bool)} (hX : ExtOK cx.P ext) {base : FuncId → List Value → List (Ob T) → Tr (CallOut T)} (hB : CallOK { cx with call := base }) (hc : cx.call = callX ext base) : CallOK cx := by
  intro f args H out hp hok hle E w args' ha hS
  rw [hc] at hp
  unfold callX at hp
  split at hp
  · rename_i s hs
    obtain ⟨fn, h1, h2, h3, h4, h5⟩ := findX_ok hX hs
    exact .inr (extC_sound h1 h2 h3 h4 h5 hp hok ha hS)
  · exact hB f args H out hp hok hle E w args' ha hS
end
end Go.Proofs.YtklpneeakhbahaaGreatDoor.Ls
end
section
set_option linter.unusedVariables false
set_option maxRecDepth 100000
set_option linter.unusedSimpArgs false
namespace Go.Proofs.YtklpneeakhbahaaGreatDoor.Fs
open Go Go.Proofs.YtklpneeakhbahaaGreatDoor.Ls
noncomputable section
@[reducible] def S56 : VS := .agg (.pair (.int .i64) (.pair (.int .i64) (.pair (.int .i64) .unit)))
abbrev T56 : Type := Int × Int × Int × Unit
@[reducible] def S77 : VS := .agg (.pair (.int .i64) (.pair (.int .i64) (.pair (.int .i64) .unit)))
abbrev T77 : Type := Int × Int × Int × Unit
@[reducible] def S25 : VS := .agg (.pair (.int .i64) (.pair (.int .i64) (.pair (.int .i64) (.pair (.int .i64) (.pair (.int .i64) (.pair (.int .i64) .unit))))))
abbrev T25 : Type := Int × Int × Int × Int × Int × Int × Unit
@[reducible] def S99 : VS := .agg (.pair (.int .i64) (.pair (.int .i64) (.pair (.int .i64) (.pair .bool .unit))))
abbrev T99 : Type := Int × Int × Int × Bool × Unit
@[reducible] def S23 (i : Nat) : VS := .agg (.pair (.int .i64) (.pair (.int .i64) (.pair (.int .i64) (.pair (.int .i64) (.pair (.int .i64) (.pair (.int .i64) (.pair (.int .i64) (.pair (.int .i64) (.pair (.int .i64) (.pair (.int .i64) (.pair (.int .i64) (.pair (.int .i64) (.pair (.int .i64) (.pair (.int .i64) (.pair (.int .i64) (.pair (.int .i64) (.pair (.int .i64) (.pair (.sl i) .unit))))))))))))))))))
abbrev T23 : Type := Int × Int × Int × Int × Int × Int × Int × Int × Int × Int × Int × Int × Int × Int × Int × Int × Int × Unit × Unit
@[reducible] def S117 : VS := .agg (.pair (.int .i64) (.pair (.int .u64) .unit))
@[reducible] def S29 : VS := .agg (.pair (.int .i64) (.pair (.int .i64) (.pair (.int .i64) (.pair (.int .i64) (.pair (.int .i64) (.pair (.int .i64) (.pair (.int .i64) (.pair (.int .i64) (.pair (.int .i64) (.pair (.int .i64) (.pair (.int .i64) (.pair (.int .i64) .unit))))))))))))
abbrev T29 : Type := Int × Int × Int × Int × Int × Int × Int × Int × Int × Int × Int × Int × Unit
@[reducible] def S30 : VS := .agg (.pair S29 .unit)
abbrev T30 : Type := T29 × Unit
@[reducible] def S60 : VS := .agg (.pair (.int .i64) (.pair (.int .i64) (.pair (.int .i64) (.pair (.int .i64) (.pair (.int .i64) (.pair .bool .unit))))))
abbrev T60 : Type := Int × Int × Int × Int × Int × Bool × Unit
@[reducible] def S32 : VS := .agg (.pair (.int .i64) (.pair .bool (.pair (.int .i64) (.pair (.int .i64) (.pair (.int .i64) (.pair (.int .i64) (.pair (.int .i64) (.pair (.int .i64) (.pair (.int .i64) (.pair (.int .i64) (.pair (.int .i64) (.pair (.int .i64) (.pair (.int .i64) (.pair (.int .i64) (.pair (.int .i64) .unit)))))))))))))))
abbrev T32 : Type := Int × Bool × Int × Int × Int × Int × Int × Int × Int × Int × Int × Int × Int × Int × Int × Unit
@[reducible] def S34 : VS := .agg (.pair (.int .i64) (.pair (.int .i64) (.pair (.int .i64) (.pair (.int .i64) (.pair (.int .i64) .unit)))))
abbrev T34 : Type := Int × Int × Int × Int × Int × Unit
@[reducible] def S36 (i : Nat) : VS := .agg (.pair (.int .i64) (.pair S25 (.pair (.sl i) (.pair S30 (.pair S32 (.pair (.int .i64) (.pair (.int .i64) (.pair (.int .i64) (.pair S34 (.pair .bool (.pair (.int .i64) (.pair (.int .i64) .unit))))))))))))
abbrev T36 : Type := Int × T25 × Unit × T30 × T32 × Int × Int × Int × T34 × Bool × Int × Int × Unit
@[reducible] def S40 (i : Nat) : VS := .agg (.pair (S36 i) (.pair S34 (.pair (.sl (i + 1)) (.pair (.int .i64) .unit))))
abbrev T40 : Type := T36 × T34 × Unit × Int × Unit
@[reducible] def S62 (i : Nat) : VS := .agg (.pair (S23 i) (.pair (S36 (i + 1)) (.pair S34 (.pair (.sl (i + 2)) (.pair (.int .i64) .unit)))))
abbrev T62 : Type := T23 × T36 × T34 × Unit × Int × Unit
def TT : TypeId → VS := fun e => match Nat.beq e 3 with | true => (.int .i64) | false => match Nat.beq e 57 with | true => S56 | false => match Nat.beq e 2 with | true => (.int .i64) | false => match Nat.beq e 100 with | true => S99 | false => match Nat.beq e 118 with | true => S117 | false => match Nat.beq e 61 with | true => S60 | false => .any
abbrev prog : Program := Go.Proofs.Tryz.prog
def globs : Nat → Option (Ob TT) := fun g => match Nat.beq g 1 with | true => some (.row false 3 ([0, 31, 59, 90, 120, 151, 181, 212, 243, 273, 304, 334, 365] : List Int)) | false => match Nat.beq g 0 with | true => some (.row false 3 ([1, 1, 1, 1, -1, -1, -1, -1, -1, 1, -1, 1] : List Int)) | false => none
def reps : TypeId → Option TypeId := fun t => match Nat.beq t 31 with | true => some 2 | false => match Nat.beq t 119 with | true => some 118 | false => none
def inls : List Inl := [⟨50, 0, [], []⟩, ⟨52, 0, [], []⟩, ⟨32, 0, [], []⟩, ⟨33, 0, [], []⟩, ⟨34, 0, [], []⟩, ⟨35, 0, [], []⟩, ⟨56, 0, [], []⟩, ⟨119, 0, [], []⟩, ⟨49, 0, [], []⟩, ⟨72, 0, [], []⟩, ⟨115, 0, [], []⟩, ⟨74, 0, [], []⟩, ⟨116, 0, [], []⟩, ⟨79, 0, [], []⟩, ⟨117, 0, [], []⟩, ⟨81, 0, [], []⟩, ⟨118, 0, [], []⟩, ⟨73, 0, [], []⟩, ⟨75, 0, [], []⟩, ⟨76, 0, [], []⟩, ⟨77, 0, [], []⟩, ⟨78, 0, [], []⟩, ⟨80, 0, [], []⟩, ⟨82, 0, [], []⟩, ⟨83, 0, [], []⟩, ⟨84, 0, [], []⟩, ⟨85, 0, [], []⟩, ⟨86, 0, [], []⟩, ⟨87, 0, [], []⟩, ⟨88, 0, [], []⟩, ⟨89, 0, [], []⟩, ⟨90, 0, [], []⟩, ⟨91, 0, [], []⟩, ⟨92, 0, [], []⟩, ⟨93, 0, [], []⟩, ⟨94, 0, [], []⟩, ⟨95, 0, [], []⟩, ⟨11, 0, [], []⟩, ⟨28, 0, [], []⟩, ⟨26, 0, [], []⟩, ⟨10, 0, [], []⟩, ⟨14, 0, [], []⟩, ⟨48, 0, [], [4]⟩, ⟨15, 0, [], []⟩, ⟨37, 0, [], []⟩, ⟨36, 40, [1000001], [19, 12]⟩, ⟨57, 40, [], [9]⟩, ⟨58, 0, [], []⟩, ⟨60, 0, [], []⟩, ⟨61, 0, [], []⟩, ⟨59, 0, [], []⟩, ⟨127, 0, [], []⟩, ⟨105, 0, [], []⟩, ⟨63, 0, [], []⟩, ⟨103, 0, [], []⟩, ⟨17, 0, [], []⟩, ⟨24, 0, [], []⟩, ⟨23, 0, [10], []⟩, ⟨21, 0, [], []⟩, ⟨68, 0, [], []⟩, ⟨110, 0, [], []⟩, ⟨71, 0, [], []⟩, ⟨114, 0, [], []⟩, ⟨111, 0, [], []⟩, ⟨112, 0, [], []⟩, ⟨113, 0, [], []⟩]
def dfrs : List Dfr := [⟨⟨9, 0, [], []⟩, ⟨25, 0, [], []⟩⟩]
def loud : List Nat := []
def exts : List (FuncId × Bool) := [(101, false), (102, true)]
def cxT (tbl : List (Ent TT)) : Cx TT := { P := prog, glob := globs, rep := reps, call := callX exts (callT2 globs tbl), n := 0, cuts := [], joins := [], nojoin := [], quiet := fun f => match memN f loud with | true => false | false => true, closed := [] }
def cxB (tbl : List (Ent TT)) (n : Nat) (cuts joins : List (Nat × SS)) (nojoin closed : List Nat) : Cx TT :=
  { P := prog, glob := globs, rep := reps, call := callD (cxT tbl) inls dfrs 6, n := n, cuts := cuts, joins := joins, nojoin := nojoin, quiet := fun f => match memN f loud with | true => false | false => true, closed := closed }
theorem mix : prog.follows .mixedOrders = true := by kernel_rfl
theorem exts_ok : ExtOK prog exts := ⟨⟨Go.Proofs.Tryz.f101, by kernel_rfl, by kernel_rfl, by kernel_rfl, by kernel_rfl, by kernel_rfl⟩, ⟨Go.Proofs.Tryz.f102, by kernel_rfl, by kernel_rfl, by kernel_rfl, by kernel_rfl, by kernel_rfl⟩, trivial⟩
theorem inls_there : inlThere prog inls = true := by kernel_rfl
theorem dfrs_there : dfrThere prog dfrs = true := by kernel_rfl
theorem cxB_ok {tbl : List (Ent TT)} (h : TblOK prog globs tbl) (n : Nat) (cuts joins : List (Nat × SS)) (nojoin closed : List Nat) : CallOK (cxB tbl n cuts joins nojoin closed) :=
  callD_ok (cx := cxT tbl) mix (callX_ok exts_ok (callT2_ok h rfl) rfl) inls_there dfrs_there 6 _ rfl rfl rfl
theorem tbl_cons {f : FuncId} {g : Sig} {F : g.args.ty → tysO TT g.hp → Res TT g} {r : List (Ent TT)} (h1 : there prog f = true) (h2 : FOK prog globs f g F) (h3 : TblOK prog globs r) : TblOK prog globs (⟨f, g, F⟩ :: r) := ⟨⟨h1, h2⟩, h3⟩
@[reducible] def g_leap : Sig := { args := (.pair (.int .i64) .unit), hp := [], eff := [], ret := .bool, news := [], pan := none }
@[reducible] def g_start : Sig := { args := (.pair (.int .i64) (.pair (.int .i64) .unit)), hp := [], eff := [], ret := (.int .i64), news := [], pan := none }
@[reducible] def g_civil : Sig := { args := (.pair (.int .i64) .unit), hp := [], eff := [], ret := (.tup (.pair S77 (.pair .bool .unit))), news := [], pan := none }
def s_civil_15 : SS := { temps := [(2, (.ptr 0 0)), (4, (.int .i64)), (5, (.int .i64)), (9, (.int .i64))], heap := [(.flat S77)], dirty := [] }
@[reducible] def g_monthLen : Sig := { args := (.pair (.int .i64) (.pair (.int .i64) .unit)), hp := [], eff := [], ret := (.int .i64), news := [], pan := none }
@[reducible] def g_number : Sig := { args := (.pair S77 .unit), hp := [], eff := [], ret := (.tup (.pair (.int .i64) (.pair .bool .unit))), news := [], pan := none }
@[reducible] def g_addMonths : Sig := { args := (.pair (.int .i64) (.pair (.int .i64) (.pair (.int .i64) .unit))), hp := [], eff := [], ret := (.tup (.pair (.int .i64) (.pair .bool .unit))), news := [], pan := none }
@[reducible] def g_weekday : Sig := { args := (.pair (.int .i64) .unit), hp := [], eff := [], ret := (.tup (.pair (.int .i64) (.pair .bool .unit))), news := [], pan := none }
@[reducible] def g_index : Sig := { args := (.pair (.sl 0) (.pair (.int .i64) .unit)), hp := [(.row false 3)], eff := [.keep], ret := (.int .i64), news := [], pan := none }
def s_index_3 : SS := { temps := [(0, (.sl 0)), (1, (.int .i64)), (7, (.int .i64)), (8, (.int .i64))], heap := [(.row false 3)], dirty := [] }
@[reducible] def g_contains : Sig := { args := (.pair (.sl 0) (.pair (.int .i64) .unit)), hp := [(.row false 3)], eff := [.keep], ret := .bool, news := [], pan := none }
@[reducible] def g_business : Sig := { args := (.pair (.int .i64) (.pair (.sl 0) .unit)), hp := [(.row false 3)], eff := [.keep], ret := .bool, news := [], pan := none }
@[reducible] def g_seek : Sig := { args := (.pair (.int .i64) (.pair (.sl 0) (.pair (.int .i64) .unit))), hp := [(.row false 3)], eff := [.keep], ret := (.tup (.pair (.int .i64) (.pair .bool .unit))), news := [], pan := none }
def s_seek_3 : SS := { temps := [(0, (.int .i64)), (1, (.sl 0)), (2, (.int .i64)), (8, (.int .i64))], heap := [(.row false 3)], dirty := [] }
@[reducible] def g_sameMonth : Sig := { args := (.pair (.int .i64) (.pair (.int .i64) .unit)), hp := [], eff := [], ret := .bool, news := [], pan := none }
@[reducible] def g_adjust : Sig := { args := (.pair (.int .i64) (.pair (.sl 0) (.pair (.int .i64) .unit))), hp := [(.row false 3)], eff := [.keep], ret := (.tup (.pair (.int .i64) (.pair .bool .unit))), news := [], pan := none }
@[reducible] def g_mul64 : Sig := { args := (.pair (.int .u64) (.pair (.int .u64) .unit)), hp := [], eff := [], ret := (.tup (.pair (.int .u64) (.pair (.int .u64) .unit))), news := [], pan := none }
@[reducible] def g_div64 : Sig := { args := (.pair (.int .u64) (.pair (.int .u64) (.pair (.int .u64) .unit))), hp := [], eff := [], ret := (.tup (.pair (.int .u64) (.pair (.int .u64) .unit))), news := [], pan := none }
def s_div64_18 : SS := { temps := [(2, (.int .u64)), (8, (.int .u64)), (9, (.int .u64)), (10, (.int .u64)), (11, (.int .u64)), (13, (.int .u64)), (14, (.int .u64)), (15, (.int .u64)), (16, (.int .u64))], heap := [], dirty := [] }
def s_div64_25 : SS := { temps := [(2, (.int .u64)), (8, (.int .u64)), (9, (.int .u64)), (10, (.int .u64)), (14, (.int .u64)), (15, (.int .u64)), (16, (.int .u64)), (17, (.int .u64)), (18, (.int .u64))], heap := [], dirty := [] }
@[reducible] def g_withSign : Sig := { args := (.pair .bool (.pair (.int .u64) .unit)), hp := [], eff := [], ret := (.tup (.pair (.int .i64) (.pair .bool .unit))), news := [], pan := none }
@[reducible] def g_mulDiv : Sig := { args := (.pair (.int .i64) (.pair (.int .i64) (.pair (.int .i64) .unit))), hp := [], eff := [], ret := (.tup (.pair (.int .i64) (.pair .bool .unit))), news := [], pan := none }
@[reducible] def g_month : Sig := { args := (.pair (.int .i64) (.pair (.int .i64) .unit)), hp := [], eff := [], ret := (.tup (.pair (.int .i64) (.pair .bool .unit))), news := [], pan := none }
@[reducible] def g_pays : Sig := { args := (.pair (.int .i64) (.pair (.int .i64) (.pair (.int .i64) (.pair (.int .i64) .unit)))), hp := [], eff := [], ret := .bool, news := [], pan := none }
def s_pays_3 : SS := { temps := [(0, (.int .i64)), (1, (.int .i64)), (2, (.int .i64)), (11, (.int .i64)), (12, (.int .i64))], heap := [], dirty := [] }
@[reducible] def g_least : Sig := { args := (.pair (.int .i64) (.pair (.int .i64) (.pair (.fn 52 (.pair (.ptr 0 0) (.pair (.ptr 1 0) (.pair (.ptr 2 0) .unit)))) .unit))), hp := [(.flat (.pair (.int .i64) .unit)), (.flat (.pair (.int .i64) .unit)), (.flat (.pair (.int .i64) .unit))], eff := [.keep, .keep, .keep], ret := (.int .i64), news := [], pan := none }
def s_least_2 : SS := { temps := [(0, (.int .i64)), (1, (.int .i64)), (2, (.fn 52 (.pair (.ptr 0 0) (.pair (.ptr 1 0) (.pair (.ptr 2 0) .unit)))))], heap := [(.flat (.pair (.int .i64) .unit)), (.flat (.pair (.int .i64) .unit)), (.flat (.pair (.int .i64) .unit))], dirty := [] }
@[reducible] def g_level : Sig := { args := (.pair (.int .i64) (.pair (.int .i64) (.pair (.int .i64) .unit))), hp := [], eff := [], ret := (.tup (.pair (.int .i64) (.pair .bool .unit))), news := [], pan := none }
@[reducible] def g_valid : Sig := { args := (.pair S25 .unit), hp := [], eff := [], ret := .bool, news := [], pan := none }
@[reducible] def g_plan : Sig := { args := (.pair S25 (.pair (.sl 0) .unit)), hp := [(.row false 3)], eff := [.keep], ret := (.tup (.pair (.sl 1) (.pair .bool .unit))), news := [(.row true 100)], pan := none }
def s_plan_17 : SS := { temps := [(2, (.ptr 1 0)), (7, .bool), (8, (.ptr 2 0)), (9, (.sl 3)), (10, (.int .i64))], heap := [(.row false 3), (.flat S25), (.flat (.agg (.pair S25 (.pair (.sl 0) (.pair (.int .i64) (.pair (.int .i64) (.pair (.int .i64) (.pair (.fnm 32 (.pair (.ptr 2 0) .unit)) .unit)))))))), (.row true 100)], dirty := [] }
def s_plan_17_1 : SS := { temps := [(2, (.ptr 1 0)), (7, .bool), (8, (.ptr 2 0)), (9, (.sl 3)), (10, (.int .i64))], heap := [(.row false 3), (.flat S25), (.flat (.agg (.pair S25 (.pair (.sl 0) (.pair (.int .i64) (.pair (.int .i64) (.pair (.int .i64) (.pair (.fnm 33 (.pair (.ptr 2 0) .unit)) .unit)))))))), (.row true 100)], dirty := [] }
def s_plan_17_2 : SS := { temps := [(2, (.ptr 1 0)), (7, .bool), (8, (.ptr 2 0)), (9, (.sl 3)), (10, (.int .i64))], heap := [(.row false 3), (.flat S25), (.flat (.agg (.pair S25 (.pair (.sl 0) (.pair (.int .i64) (.pair (.int .i64) (.pair (.int .i64) (.pair (.fnm 34 (.pair (.ptr 2 0) .unit)) .unit)))))))), (.row true 100)], dirty := [] }
@[reducible] def g_days : Sig := { args := (.pair (S23 0) .unit), hp := [(.row false 3)], eff := [.keep], ret := .bool, news := [], pan := none }
def s_days_6 : SS := { temps := [(3, (.int .i64)), (11, (.sl 0)), (12, (.int .i64)), (13, (.int .i64))], heap := [(.row false 3)], dirty := [] }
@[reducible] def g_check : Sig := { args := (.pair (S23 0) .unit), hp := [(.row false 3)], eff := [.keep], ret := (.tup (.pair (.int .i64) (.pair (.int .i64) .unit))), news := [], pan := none }
@[reducible] def g_post : Sig := { args := (.pair S30 (.pair (.sl 0) .unit)), hp := [(.row false 57)], eff := [.keep], ret := (.tup (.pair S30 (.pair (.int .i64) .unit))), news := [], pan := none }
def s_post_9 : SS := { temps := [(2, (.ptr 1 0)), (4, (.ptr 2 0)), (6, (.ptr 3 0)), (31, (.sl 0)), (32, (.int .i64)), (33, (.int .i64))], heap := [(.row false 57), (.row true 2), (.row true 2), (.row true 118)], dirty := [] }
@[reducible] def g_may : Sig := { args := (.pair S25 .unit), hp := [], eff := [], ret := .bool, news := [], pan := none }
@[reducible] def g_open : Sig := { args := (.pair (S23 0) (.pair (.int .i64) (.pair S25 .unit))), hp := [(.row false 3)], eff := [.keep], ret := (S40 1), news := [(.row true 100), (.row true 61)], pan := none }
@[reducible] def g_yearLen : Sig := { args := (.pair (.int .i64) .unit), hp := [], eff := [], ret := (.int .i64), news := [], pan := none }
@[reducible] def g_lenOf : Sig := { args := (.pair (.int .i64) (.pair (.int .i64) .unit)), hp := [], eff := [], ret := (.int .i64), news := [], pan := none }
@[reducible] def g_rMonthLen : Sig := { args := (.pair (.int .i64) (.pair (.int .i64) .unit)), hp := [], eff := [], ret := (.int .i64), news := [], pan := none }
@[reducible] def g_rNumber : Sig := { args := (.pair S77 .unit), hp := [], eff := [], ret := (.tup (.pair (.int .i64) (.pair .bool .unit))), news := [], pan := none }
def s_rNumber_7 : SS := { temps := [(1, (.ptr 0 0)), (5, (.int .i64)), (6, (.int .i64))], heap := [(.flat S77)], dirty := [] }
def s_rNumber_11 : SS := { temps := [(1, (.ptr 0 0)), (5, (.int .i64)), (7, (.int .i64))], heap := [(.flat S77)], dirty := [] }
@[reducible] def g_rCivil : Sig := { args := (.pair (.int .i64) .unit), hp := [], eff := [], ret := (.tup (.pair S77 (.pair .bool .unit))), news := [], pan := none }
def s_rCivil_7 : SS := { temps := [(2, (.ptr 0 0)), (5, (.int .i64)), (6, (.int .i64))], heap := [(.flat S77)], dirty := [] }
def s_rCivil_11 : SS := { temps := [(2, (.ptr 0 0)), (5, (.int .i64)), (6, (.int .i64)), (7, (.int .i64))], heap := [(.flat S77)], dirty := [] }
@[reducible] def g_rWeekday : Sig := { args := (.pair (.int .i64) .unit), hp := [], eff := [], ret := (.tup (.pair (.int .i64) (.pair .bool .unit))), news := [], pan := none }
@[reducible] def g_rBusiness : Sig := { args := (.pair (.int .i64) (.pair (.sl 0) .unit)), hp := [(.row false 3)], eff := [.keep], ret := .bool, news := [], pan := none }
def s_rBusiness_6 : SS := { temps := [(0, (.int .i64)), (1, (.sl 0)), (7, (.int .i64))], heap := [(.row false 3)], dirty := [] }
@[reducible] def g_sought : Sig := { args := (.pair (.int .i64) (.pair (.sl 0) (.pair (.int .i64) .unit))), hp := [(.row false 3)], eff := [.keep], ret := (.tup (.pair (.int .i64) (.pair .bool .unit))), news := [], pan := none }
def s_sought_3 : SS := { temps := [(0, (.int .i64)), (1, (.sl 0)), (2, (.int .i64)), (8, (.int .i64))], heap := [(.row false 3)], dirty := [] }
@[reducible] def g_rAddMonths : Sig := { args := (.pair (.int .i64) (.pair (.int .i64) (.pair (.int .i64) .unit))), hp := [], eff := [], ret := (.tup (.pair (.int .i64) (.pair .bool .unit))), news := [], pan := none }
@[reducible] def g_rAdjust : Sig := { args := (.pair (.int .i64) (.pair (.sl 0) (.pair (.int .i64) .unit))), hp := [(.row false 3)], eff := [.keep], ret := (.tup (.pair (.int .i64) (.pair .bool .unit))), news := [], pan := none }
@[reducible] def g_rmonth : Sig := { args := (.pair (.int .i64) (.pair (.int .i64) .unit)), hp := [], eff := [], ret := (.int .i64), news := [], pan := none }
@[reducible] def g_paysOff : Sig := { args := (.pair (.int .i64) (.pair (.int .i64) (.pair (.int .i64) (.pair (.int .i64) .unit)))), hp := [], eff := [], ret := .bool, news := [], pan := none }
def s_paysOff_3 : SS := { temps := [(0, (.int .i64)), (1, (.int .i64)), (2, (.int .i64)), (3, (.int .i64)), (9, (.int .i64))], heap := [], dirty := [] }
@[reducible] def g_rLevel : Sig := { args := (.pair (.int .i64) (.pair (.int .i64) (.pair (.int .i64) .unit))), hp := [], eff := [], ret := (.tup (.pair (.int .i64) (.pair .bool .unit))), news := [], pan := none }
def s_rLevel_8 : SS := { temps := [(0, (.int .i64)), (1, (.int .i64)), (2, (.int .i64)), (8, (.int .i64)), (9, (.int .i64))], heap := [], dirty := [] }
@[reducible] def g_rValid : Sig := { args := (.pair S25 .unit), hp := [], eff := [], ret := .bool, news := [], pan := none }
@[reducible] def g_rpart : Sig := { args := (.pair S25 (.pair (.int .i64) (.pair (.int .i64) (.pair (.int .i64) (.pair (.int .i64) .unit))))), hp := [], eff := [], ret := (.int .i64), news := [], pan := none }
@[reducible] def g_rDue : Sig := { args := (.pair S25 (.pair (.sl 0) (.pair (.int .i64) .unit))), hp := [(.row false 3)], eff := [.keep], ret := (.tup (.pair (.int .i64) (.pair .bool .unit))), news := [], pan := none }
@[reducible] def g_rPlan : Sig := { args := (.pair S25 (.pair (.sl 0) .unit)), hp := [(.row false 3)], eff := [.keep], ret := (.tup (.pair (.sl 1) (.pair .bool .unit))), news := [(.row true 100)], pan := none }
def s_rPlan_8 : SS := { temps := [(1, (.sl 0)), (2, (.ptr 1 0)), (6, (.int .i64)), (8, (.sl 2)), (9, (.int .i64)), (10, (.int .i64))], heap := [(.row false 3), (.flat S25), (.row true 100)], dirty := [] }
@[reducible] def g_holidays : Sig := { args := (.pair (.sl 0) .unit), hp := [(.row false 3)], eff := [.keep], ret := .bool, news := [], pan := none }
def s_holidays_5 : SS := { temps := [(0, (.sl 0)), (3, (.int .i64))], heap := [(.row false 3)], dirty := [] }
@[reducible] def g_pmay : Sig := { args := (.pair (S23 0) (.pair (.int .i64) .unit)), hp := [(.row false 3)], eff := [.keep], ret := .bool, news := [], pan := none }
@[reducible] def g_rCheck : Sig := { args := (.pair (S23 0) .unit), hp := [(.row false 3)], eff := [.keep], ret := (.tup (.pair (.int .i64) (.pair (.int .i64) .unit))), news := [], pan := none }
@[reducible] def g_wrong : Sig := { args := (.pair S25 .unit), hp := [], eff := [], ret := .bool, news := [], pan := none }
@[reducible] def g_copied : Sig := { args := (.pair (S36 0) .unit), hp := [(.row false 100)], eff := [.keep], ret := (S36 1), news := [(.row true 100)], pan := none }
def s_copied_4 : SS := { temps := [(1, (.ptr 1 0)), (2, (.ptr 2 0)), (3, (.sl 3)), (4, (.int .i64))], heap := [(.row false 100), (.flat (S36 0)), (.flat (S36 4)), (.row true 100), (.row true 100)], dirty := [] }
@[reducible] def g_rsum : Sig := { args := (.pair (.sl 0) .unit), hp := [(.row false 2)], eff := [.keep], ret := (.tup (.pair (.int .i64) (.pair .bool .unit))), news := [], pan := none }
def s_rsum_4 : SS := { temps := [(0, (.sl 0)), (4, (.int .i64)), (5, (.int .i64)), (6, (.int .i64))], heap := [(.row false 2)], dirty := [] }
@[reducible] def g_moves : Sig := { args := (.pair S30 (.pair (.sl 0) (.pair (.int .i64) .unit))), hp := [(.row false 57)], eff := [.keep], ret := (.sl 1), news := [(.row true 2)], pan := none }
def s_moves_5 : SS := { temps := [(1, (.sl 0)), (2, (.int .i64)), (7, (.sl 1)), (8, (.int .i64))], heap := [(.row false 57), (.row true 2)], dirty := [] }
@[reducible] def g_rpost : Sig := { args := (.pair S30 (.pair (.sl 0) .unit)), hp := [(.row false 57)], eff := [.keep], ret := (.tup (.pair S30 (.pair (.int .i64) .unit))), news := [], pan := none }
def s_rpost_3 : SS := { temps := [(1, (.sl 0)), (2, (.ptr 1 0)), (4, (.ptr 2 0)), (6, (.int .i64))], heap := [(.row false 57), (.row true 2), (.row true 2)], dirty := [] }
def s_rpost_10 : SS := { temps := [(1, (.sl 0)), (2, (.ptr 1 0)), (4, (.ptr 2 0)), (8, (.ptr 3 0)), (9, (.int .i64))], heap := [(.row false 57), (.row true 2), (.row true 2), (.row true 2)], dirty := [] }
def s_rpost_17 : SS := { temps := [(2, (.ptr 1 0)), (4, (.ptr 2 0)), (8, (.ptr 3 0)), (12, (.int .i64))], heap := [(.row false 57), (.row true 2), (.row true 2), (.row true 2)], dirty := [] }
@[reducible] def g_rfail : Sig := { args := (.pair (S62 0) (.pair .bool (.pair (.int .i64) .unit))), hp := [(.row false 3), (.row false 100), (.row false 61)], eff := [.keep, .keep, .keep], ret := (S62 0), news := [], pan := none }
@[reducible] def g_rposted : Sig := { args := (.pair (S62 0) (.pair (.sl 3) .unit)), hp := [(.row false 3), (.row false 100), (.row false 61), (.row false 57)], eff := [.keep, .keep, .keep, .keep], ret := (S62 0), news := [], pan := none }
@[reducible] def g_rOpen : Sig := { args := (.pair (S23 0) (.pair (.int .i64) (.pair S25 .unit))), hp := [(.row false 3)], eff := [.keep], ret := (S40 1), news := [(.row true 100), (.row true 61)], pan := none }
@[reducible] def g_own : Sig := { args := (.pair (S23 0) .unit), hp := [(.row false 3)], eff := [.keep], ret := (.agg (.pair (.int .i64) (.pair (.int .i64) (.pair (.int .i64) (.pair (.int .i64) (.pair (.int .i64) (.pair (.int .i64) (.pair (.int .i64) (.pair (.int .i64) (.pair (.int .i64) (.pair (.int .i64) (.pair (.int .i64) (.pair (.int .i64) (.pair (.int .i64) (.pair (.int .i64) (.pair (.int .i64) (.pair (.int .i64) (.pair (.int .i64) (.pair (.gsl 1) .unit))))))))))))))))))), news := [(.row true 3)], pan := none }
@[reducible] def g_leftAlone : Sig := { args := (.pair (.agg (.pair (.int .i64) (.pair (.int .i64) (.pair (.int .i64) (.pair (.int .i64) (.pair (.int .i64) (.pair (.int .i64) (.pair (.int .i64) (.pair (.int .i64) (.pair (.int .i64) (.pair (.int .i64) (.pair (.int .i64) (.pair (.int .i64) (.pair (.int .i64) (.pair (.int .i64) (.pair (.int .i64) (.pair (.int .i64) (.pair (.int .i64) (.pair (.gsl 1) .unit))))))))))))))))))) (.pair (S23 0) .unit)), hp := [(.row false 3), (.row false 3)], eff := [.keep, .keep], ret := .bool, news := [], pan := none }
def s_leftAlone_7 : SS := { temps := [(3, (.ptr 2 0)), (5, (.int .i64)), (6, (.gsl 1)), (7, (.int .i64))], heap := [(.row false 3), (.row false 3), (.flat (S23 0))], dirty := [] }
@[reducible] def g_samePlan : Sig := { args := (.pair (.sl 0) (.pair (.sl 1) .unit)), hp := [(.row false 100), (.row false 100)], eff := [.keep, .keep], ret := .bool, news := [], pan := none }
def s_samePlan_5 : SS := { temps := [(0, (.sl 0)), (1, (.sl 1)), (5, (.int .i64))], heap := [(.row false 100), (.row false 100)], dirty := [] }
@[reducible] def g_sameLoan : Sig := { args := (.pair (S36 0) (.pair (S36 1) .unit)), hp := [(.row false 100), (.row false 100)], eff := [.keep, .keep], ret := .bool, news := [], pan := none }
@[reducible] def g_same : Sig := { args := (.pair (S40 0) (.pair (S40 2) .unit)), hp := [(.row false 100), (.row false 61), (.row false 100), (.row false 61)], eff := [.keep, .keep, .keep, .keep], ret := .bool, news := [], pan := none }
def s_same_5 : SS := { temps := [(2, (.ptr 4 0)), (3, (.ptr 5 0)), (5, (.int .i64))], heap := [(.row false 100), (.row false 61), (.row false 100), (.row false 61), (.flat (.agg (.pair (S36 0) (.pair S34 (.pair (.sl 1) (.pair (.int .i64) .unit)))))), (.flat (.agg (.pair (S36 2) (.pair S34 (.pair (.sl 3) (.pair (.int .i64) .unit))))))], dirty := [] }
@[reducible] def g_loanOpens : Sig := { args := (.pair (S23 0) (.pair (.int .i64) (.pair S25 .unit))), hp := [(.row false 3)], eff := [.keep], ret := .bool, news := [], pan := none }
def s_loanOpens_8 : SS := { temps := [(1, (.int .i64)), (3, (.ptr 1 0)), (5, (.ptr 2 0)), (7, (.ptr 3 0)), (9, (.ptr 4 0)), (10, (.int .i64))], heap := [(.row false 3), (.flat (S23 0)), (.flat S25), (.flat (.agg (.pair (.int .i64) (.pair (.int .i64) (.pair (.int .i64) (.pair (.int .i64) (.pair (.int .i64) (.pair (.int .i64) (.pair (.int .i64) (.pair (.int .i64) (.pair (.int .i64) (.pair (.int .i64) (.pair (.int .i64) (.pair (.int .i64) (.pair (.int .i64) (.pair (.int .i64) (.pair (.int .i64) (.pair (.int .i64) (.pair (.int .i64) (.pair (.gsl 5) .unit)))))))))))))))))))), (.flat (.agg (.pair (.int .i64) (.pair (.int .i64) (.pair (.int .i64) (.pair (.int .i64) (.pair (.int .i64) (.pair (.int .i64) (.pair (.int .i64) (.pair (.int .i64) (.pair (.int .i64) (.pair (.int .i64) (.pair (.int .i64) (.pair (.int .i64) (.pair (.int .i64) (.pair (.int .i64) (.pair (.int .i64) (.pair (.int .i64) (.pair (.int .i64) (.pair (.gsl 6) .unit)))))))))))))))))))), (.row true 3), (.row true 3)], dirty := [] }
end
end Go.Proofs.YtklpneeakhbahaaGreatDoor.Fs
end
section
set_option linter.unusedVariables false
set_option maxRecDepth 100000
set_option linter.unusedSimpArgs false
namespace Go.Proofs.YtklpneeakhbahaaGreatDoor.Fs
open Go Go.Proofs.YtklpneeakhbahaaGreatDoor.Ls
noncomputable def tbl0 : List (Ent TT) := []
theorem tbl0_ok : TblOK prog globs tbl0 := trivial
noncomputable def C_leap : Cx TT := cxB tbl0 Go.Proofs.Tryz.f97.ntmps [] [] [] []
noncomputable def k_leap (a : g_leap.args.ty) (h : tysO TT g_leap.hp) : Nat := 0
noncomputable def F_leap : g_leap.args.ty → tysO TT g_leap.hp → Res TT g_leap := fun a h => bodyG C_leap g_leap Go.Proofs.Tryz.f97 [] (k_leap a h) a h
theorem F_leap_ok : FOK prog globs 97 g_leap F_leap :=
  bodyG_sound (cx := C_leap) mix (cxB_ok tbl0_ok _ _ _ _ _) (f := 97) (fn := Go.Proofs.Tryz.f97) (by kernel_rfl) (by kernel_rfl) (by kernel_rfl) (by kernel_rfl) _
theorem F_leap_eq (year : Int) : F_leap (year, ()) () =
  let x0 := (bif decide (year < 1) then true else (bif decide (year > 9999) then true else true))
  (bif (bif decide (year < 1) then true else (bif decide (year > 9999) then true else ((year.tmod (4 : Int)) != 0))) then ⟨x0, false, false, (), ()⟩ else ⟨(bif ((year.tmod (100 : Int)) != 0) then x0 else x0), false, (bif ((year.tmod (100 : Int)) != 0) then true else ((year.tmod (400 : Int)) == 0)), (), ()⟩) := by kernel_rfl
noncomputable def tbl1 : List (Ent TT) := ⟨97, g_leap, F_leap⟩ :: tbl0
theorem tbl1_ok : TblOK prog globs tbl1 := tbl_cons (by kernel_rfl) F_leap_ok tbl0_ok
noncomputable def C_start : Cx TT := cxB tbl1 Go.Proofs.Tryz.f51.ntmps [] [] [] []
noncomputable def k_start (a : g_start.args.ty) (h : tysO TT g_start.hp) : Nat := 0
noncomputable def F_start : g_start.args.ty → tysO TT g_start.hp → Res TT g_start := fun a h => bodyG C_start g_start Go.Proofs.Tryz.f51 [] (k_start a h) a h
theorem F_start_ok : FOK prog globs 51 g_start F_start :=
  bodyG_sound (cx := C_start) mix (cxB_ok tbl1_ok _ _ _ _ _) (f := 51) (fn := Go.Proofs.Tryz.f51) (by kernel_rfl) (by kernel_rfl) (by kernel_rfl) (by kernel_rfl) _
theorem F_start_eq (year : Int) (month : Int) : F_start (year, month, ()) () =
  let x0 := (bif decide (month > 2) then ((F_leap (year, ()) ()).ret : Bool) else false)
  let x1 := [(0 : Int), (31 : Int), (59 : Int), (90 : Int), (120 : Int), (151 : Int), (181 : Int), (212 : Int), (243 : Int), (273 : Int), (304 : Int), (334 : Int), (365 : Int)]
  let x2 := ((decide (0 ≤ (IntKind.i64.wrap (month - 1))) && decide ((IntKind.i64.wrap (month - 1)) < ((13 : Nat) : Int))) && (Nat.blt ((IntKind.i64.wrap (month - 1)).toNat) x1.length))
  let x3 := (bif decide (month > 2) then (x2 && (F_leap (year, ()) ()).ok) else x2)
  let x4 := (x1.getD ((IntKind.i64.wrap (month - 1)).toNat) (0 : Int))
  ⟨(bif x0 then x3 else x3), false, (bif x0 then (IntKind.i64.wrap (x4 + 1)) else x4), (), ()⟩ := by kernel_rfl
noncomputable def tbl2 : List (Ent TT) := ⟨51, g_start, F_start⟩ :: tbl1
theorem tbl2_ok : TblOK prog globs tbl2 := tbl_cons (by kernel_rfl) F_start_ok tbl1_ok
noncomputable def C_civil : Cx TT := cxB tbl2 Go.Proofs.Tryz.f30.ntmps [(15, s_civil_15)] [] [] []
noncomputable def k_civil (a : g_civil.args.ty) (h : tysO TT g_civil.hp) : Nat := 200
noncomputable def F_civil : g_civil.args.ty → tysO TT g_civil.hp → Res TT g_civil := fun a h => bodyG C_civil g_civil Go.Proofs.Tryz.f30 [] (k_civil a h) a h
theorem F_civil_ok : FOK prog globs 30 g_civil F_civil :=
  bodyG_sound (cx := C_civil) mix (cxB_ok tbl2_ok _ _ _ _ _) (f := 30) (fn := Go.Proofs.Tryz.f30) (by kernel_rfl) (by kernel_rfl) (by kernel_rfl) (by kernel_rfl) _
noncomputable def L_civil_15 (k : Nat) (v : s_civil_15.ty TT) : Res TT g_civil := loopG C_civil g_civil Go.Proofs.Tryz.f30 [] k (todoF Go.Proofs.Tryz.f30 15) (SS.st s_civil_15 0 v)
theorem F_civil_eq (day : Int) : F_civil (day, ()) () =
  let x0 := (if (3 < (IntKind.i64.wrap (((IntKind.i64.wrap (day - 1)).tmod (146097 : Int)).tdiv (36524 : Int)))) then (3 : Int) else (IntKind.i64.wrap (((IntKind.i64.wrap (day - 1)).tmod (146097 : Int)).tdiv (36524 : Int))))
  let x1 := (IntKind.i64.wrap (((IntKind.i64.wrap (day - 1)).tmod (146097 : Int)) - (IntKind.i64.wrap (x0 * 36524))))
  let x2 := (x1.tmod (1461 : Int))
  let x3 := (IntKind.i64.wrap (x2.tdiv (365 : Int)))
  let x4 := (if (3 < x3) then (3 : Int) else x3)
  let x5 := (L_civil_15 (k_civil (day, ()) ()) (((), (IntKind.i64.wrap (x2 - (IntKind.i64.wrap (x4 * 365)))), (IntKind.i64.wrap ((IntKind.i64.wrap ((IntKind.i64.wrap (400 * (IntKind.i64.wrap ((IntKind.i64.wrap (day - 1)).tdiv (146097 : Int))))) + 1)) + (IntKind.i64.wrap ((IntKind.i64.wrap ((IntKind.i64.wrap (100 * x0)) + (IntKind.i64.wrap (4 * (IntKind.i64.wrap (x1.tdiv (1461 : Int))))))) + x4)))), (1 : Int), ()), ((0 : Int), (0 : Int), (0 : Int), ()), ()))
  (bif (bif decide (day < 1) then true else decide (day > 3652059)) then ⟨(bif decide (day < 1) then true else true), false, (((0 : Int), (0 : Int), (0 : Int), ()), false, ()), (), ()⟩ else ⟨((bif decide (day < 1) then true else true) && x5.ok), x5.pan, x5.ret, x5.out, x5.pv⟩) := by kernel_rfl
theorem L_civil_15_eq (k : Nat) (left : Int) (year : Int) (month : Int) (t2 : T77) : L_civil_15 (k + 1) (((), left, year, month, ()), (t2, ())) =
  let x0 := (bif decide (month < 12) then (F_start (year, (IntKind.i64.wrap (month + 1)), ()) ()).ok else true)
  let x1 := (L_civil_15 k (((), left, year, (IntKind.i64.wrap (month + 1)), ()), t2, ()))
  (bif (bif decide (month < 12) then decide (left ≥ ((F_start (year, (IntKind.i64.wrap (month + 1)), ()) ()).ret : Int)) else false) then ⟨(x0 && x1.ok), x1.pan, x1.ret, x1.out, x1.pv⟩ else ⟨(x0 && (F_start (year, month, ()) ()).ok), false, ((year, month, (IntKind.i64.wrap ((IntKind.i64.wrap (left - ((F_start (year, month, ()) ()).ret : Int))) + 1)), ()), true, ()), (), ()⟩) := by kernel_rfl
noncomputable def tbl3 : List (Ent TT) := ⟨30, g_civil, F_civil⟩ :: tbl2
theorem tbl3_ok : TblOK prog globs tbl3 := tbl_cons (by kernel_rfl) F_civil_ok tbl2_ok
noncomputable def C_monthLen : Cx TT := cxB tbl3 Go.Proofs.Tryz.f124.ntmps [] [] [] []
noncomputable def k_monthLen (a : g_monthLen.args.ty) (h : tysO TT g_monthLen.hp) : Nat := 0
noncomputable def F_monthLen : g_monthLen.args.ty → tysO TT g_monthLen.hp → Res TT g_monthLen := fun a h => bodyG C_monthLen g_monthLen Go.Proofs.Tryz.f124 [] (k_monthLen a h) a h
theorem F_monthLen_ok : FOK prog globs 124 g_monthLen F_monthLen :=
  bodyG_sound (cx := C_monthLen) mix (cxB_ok tbl3_ok _ _ _ _ _) (f := 124) (fn := Go.Proofs.Tryz.f124) (by kernel_rfl) (by kernel_rfl) (by kernel_rfl) (by kernel_rfl) _
theorem F_monthLen_eq (year : Int) (month : Int) : F_monthLen (year, month, ()) () =
  let x0 := (bif decide (year < 1) then true else (bif decide (year > 9999) then true else (bif decide (month < 1) then true else true)))
  let x1 := [(0 : Int), (31 : Int), (59 : Int), (90 : Int), (120 : Int), (151 : Int), (181 : Int), (212 : Int), (243 : Int), (273 : Int), (304 : Int), (334 : Int), (365 : Int)]
  let x2 := x1.length
  let x3 := ((((x0 && (decide (0 ≤ month) && decide (month < ((13 : Nat) : Int)))) && (Nat.blt month.toNat x2)) && (decide (0 ≤ (IntKind.i64.wrap (month - 1))) && decide ((IntKind.i64.wrap (month - 1)) < ((13 : Nat) : Int)))) && (Nat.blt ((IntKind.i64.wrap (month - 1)).toNat) x2))
  let x4 := (bif (month == 2) then (x3 && (F_leap (year, ()) ()).ok) else x3)
  let x5 := (IntKind.i64.wrap ((x1.getD month.toNat (0 : Int)) - (x1.getD ((IntKind.i64.wrap (month - 1)).toNat) (0 : Int))))
  (bif (bif decide (year < 1) then true else (bif decide (year > 9999) then true else (bif decide (month < 1) then true else decide (month > 12)))) then ⟨x0, false, (0 : Int), (), ()⟩ else ⟨(bif (bif (month == 2) then ((F_leap (year, ()) ()).ret : Bool) else false) then x4 else x4), false, (bif (bif (month == 2) then ((F_leap (year, ()) ()).ret : Bool) else false) then (IntKind.i64.wrap (x5 + 1)) else x5), (), ()⟩) := by kernel_rfl
noncomputable def tbl4 : List (Ent TT) := ⟨124, g_monthLen, F_monthLen⟩ :: tbl3
theorem tbl4_ok : TblOK prog globs tbl4 := tbl_cons (by kernel_rfl) F_monthLen_ok tbl3_ok
noncomputable def C_number : Cx TT := cxB tbl4 Go.Proofs.Tryz.f123.ntmps [] [] [] []
noncomputable def k_number (a : g_number.args.ty) (h : tysO TT g_number.hp) : Nat := 0
noncomputable def F_number : g_number.args.ty → tysO TT g_number.hp → Res TT g_number := fun a h => bodyG C_number g_number Go.Proofs.Tryz.f123 [] (k_number a h) a h
theorem F_number_ok : FOK prog globs 123 g_number F_number :=
  bodyG_sound (cx := C_number) mix (cxB_ok tbl4_ok _ _ _ _ _) (f := 123) (fn := Go.Proofs.Tryz.f123) (by kernel_rfl) (by kernel_rfl) (by kernel_rfl) (by kernel_rfl) _
theorem F_number_eq (d : T77) : F_number (d, ()) () =
  let x0 := (bif decide (d.2.2.1 < 1) then true else (F_monthLen (d.1, d.2.1, ()) ()).ok)
  let x1 := (bif decide (d.2.1 > 2) then ((F_leap (d.1, ()) ()).ret : Bool) else false)
  let x2 := [(0 : Int), (31 : Int), (59 : Int), (90 : Int), (120 : Int), (151 : Int), (181 : Int), (212 : Int), (243 : Int), (273 : Int), (304 : Int), (334 : Int), (365 : Int)]
  let x3 := ((x0 && (decide (0 ≤ (IntKind.i64.wrap (d.2.1 - 1))) && decide ((IntKind.i64.wrap (d.2.1 - 1)) < ((13 : Nat) : Int)))) && (Nat.blt ((IntKind.i64.wrap (d.2.1 - 1)).toNat) x2.length))
  let x4 := (bif decide (d.2.1 > 2) then (x3 && (F_leap (d.1, ()) ()).ok) else x3)
  let x5 := (IntKind.i64.wrap ((IntKind.i64.wrap ((IntKind.i64.wrap ((IntKind.i64.wrap ((IntKind.i64.wrap ((IntKind.i64.wrap (365 * (IntKind.i64.wrap (d.1 - 1)))) + (IntKind.i64.wrap ((IntKind.i64.wrap (d.1 - 1)).tdiv (4 : Int))))) - (IntKind.i64.wrap ((IntKind.i64.wrap (d.1 - 1)).tdiv (100 : Int))))) + (IntKind.i64.wrap ((IntKind.i64.wrap (d.1 - 1)).tdiv (400 : Int))))) + (x2.getD ((IntKind.i64.wrap (d.2.1 - 1)).toNat) (0 : Int)))) + d.2.2.1))
  (bif (bif decide (d.2.2.1 < 1) then true else decide (d.2.2.1 > ((F_monthLen (d.1, d.2.1, ()) ()).ret : Int))) then ⟨x0, false, ((0 : Int), false, ()), (), ()⟩ else ⟨(bif x1 then x4 else x4), false, ((bif x1 then (IntKind.i64.wrap (x5 + 1)) else x5), true, ()), (), ()⟩) := by kernel_rfl
noncomputable def tbl5 : List (Ent TT) := ⟨123, g_number, F_number⟩ :: tbl4
theorem tbl5_ok : TblOK prog globs tbl5 := tbl_cons (by kernel_rfl) F_number_ok tbl4_ok
noncomputable def C_addMonths : Cx TT := cxB tbl5 Go.Proofs.Tryz.f99.ntmps [] [] [] []
noncomputable def k_addMonths (a : g_addMonths.args.ty) (h : tysO TT g_addMonths.hp) : Nat := 0
noncomputable def F_addMonths : g_addMonths.args.ty → tysO TT g_addMonths.hp → Res TT g_addMonths := fun a h => bodyG C_addMonths g_addMonths Go.Proofs.Tryz.f99 [] (k_addMonths a h) a h
theorem F_addMonths_ok : FOK prog globs 99 g_addMonths F_addMonths :=
  bodyG_sound (cx := C_addMonths) mix (cxB_ok tbl5_ok _ _ _ _ _) (f := 99) (fn := Go.Proofs.Tryz.f99) (by kernel_rfl) (by kernel_rfl) (by kernel_rfl) (by kernel_rfl) _
theorem F_addMonths_eq (day : Int) (months : Int) (anchor : Int) : F_addMonths (day, months, anchor, ()) () =
  let x0 := (bif (!(((F_civil (day, ()) ()).ret : (Int × Int × Int × Unit) × Bool × Unit).2).1) then (F_civil (day, ()) ()).ok else (bif decide (anchor < 1) then (F_civil (day, ()) ()).ok else (bif decide (anchor > 31) then (F_civil (day, ()) ()).ok else (bif decide (months ≤ (-119988)) then (F_civil (day, ()) ()).ok else (F_civil (day, ()) ()).ok))))
  let x1 := (IntKind.i64.wrap ((IntKind.i64.wrap ((IntKind.i64.wrap ((IntKind.i64.wrap (12 * (((F_civil (day, ()) ()).ret : (Int × Int × Int × Unit) × Bool × Unit).1).1)) + ((((F_civil (day, ()) ()).ret : (Int × Int × Int × Unit) × Bool × Unit).1).2).1)) - 13)) + months))
  let x2 := decide (x1 < 0)
  let x3 := (bif x2 then x0 else x0)
  let x4 := (IntKind.i64.wrap ((IntKind.i64.wrap (x1.tdiv (12 : Int))) + 1))
  let x5 := (IntKind.i64.wrap ((x1.tmod (12 : Int)) + 1))
  let x6 := (F_monthLen (x4, x5, ()) ())
  let x7 := (x6.ret : Int)
  let x8 := (F_number ((x4, x5, (if (x7 < anchor) then x7 else anchor), ()), ()) ())
  (bif (bif (!(((F_civil (day, ()) ()).ret : (Int × Int × Int × Unit) × Bool × Unit).2).1) then true else (bif decide (anchor < 1) then true else (bif decide (anchor > 31) then true else (bif decide (months ≤ (-119988)) then true else decide (months ≥ 119988))))) then ⟨x0, false, ((0 : Int), false, ()), (), ()⟩ else (bif (bif x2 then true else decide (x1 ≥ 119988)) then ⟨x3, false, ((0 : Int), false, ()), (), ()⟩ else ⟨((x3 && x6.ok) && x8.ok), false, x8.ret, (), ()⟩)) := by kernel_rfl
noncomputable def tbl6 : List (Ent TT) := ⟨99, g_addMonths, F_addMonths⟩ :: tbl5
theorem tbl6_ok : TblOK prog globs tbl6 := tbl_cons (by kernel_rfl) F_addMonths_ok tbl5_ok
noncomputable def C_weekday : Cx TT := cxB tbl6 Go.Proofs.Tryz.f134.ntmps [] [] [] []
noncomputable def k_weekday (a : g_weekday.args.ty) (h : tysO TT g_weekday.hp) : Nat := 0
noncomputable def F_weekday : g_weekday.args.ty → tysO TT g_weekday.hp → Res TT g_weekday := fun a h => bodyG C_weekday g_weekday Go.Proofs.Tryz.f134 [] (k_weekday a h) a h
theorem F_weekday_ok : FOK prog globs 134 g_weekday F_weekday :=
  bodyG_sound (cx := C_weekday) mix (cxB_ok tbl6_ok _ _ _ _ _) (f := 134) (fn := Go.Proofs.Tryz.f134) (by kernel_rfl) (by kernel_rfl) (by kernel_rfl) (by kernel_rfl) _
theorem F_weekday_eq (day : Int) : F_weekday (day, ()) () =
  (bif (bif decide (day < 1) then true else decide (day > 3652059)) then ⟨(bif decide (day < 1) then true else true), false, ((0 : Int), false, ()), (), ()⟩ else ⟨(bif decide (day < 1) then true else true), false, ((IntKind.i64.wrap (((IntKind.i64.wrap (day - 1)).tmod (7 : Int)) + 1)), true, ()), (), ()⟩) := by kernel_rfl
noncomputable def tbl7 : List (Ent TT) := ⟨134, g_weekday, F_weekday⟩ :: tbl6
theorem tbl7_ok : TblOK prog globs tbl7 := tbl_cons (by kernel_rfl) F_weekday_ok tbl6_ok
noncomputable def C_index : Cx TT := cxB tbl7 Go.Proofs.Tryz.f136.ntmps [(3, s_index_3)] [] [] []
noncomputable def k_index (a : g_index.args.ty) (h : tysO TT g_index.hp) : Nat := h.1.length + 2
noncomputable def F_index : g_index.args.ty → tysO TT g_index.hp → Res TT g_index := fun a h => bodyG C_index g_index Go.Proofs.Tryz.f136 [] (k_index a h) a h
theorem F_index_ok : FOK prog globs 136 g_index F_index :=
  bodyG_sound (cx := C_index) mix (cxB_ok tbl7_ok _ _ _ _ _) (f := 136) (fn := Go.Proofs.Tryz.f136) (by kernel_rfl) (by kernel_rfl) (by kernel_rfl) (by kernel_rfl) _
noncomputable def L_index_3 (k : Nat) (v : s_index_3.ty TT) : Res TT g_index := loopG C_index g_index Go.Proofs.Tryz.f136 [] k (todoF Go.Proofs.Tryz.f136 3) (SS.st s_index_3 0 v)
theorem F_index_eq (v_ : Int) (s : List Int) : F_index ((), v_, ()) (s, ()) =
  (L_index_3 (k_index ((), v_, ()) (s, ())) (((), v_, ((s.length : Nat) : Int), (0 : Int), ()), s, ())) := by kernel_rfl
theorem L_index_3_eq (k : Nat) (v_ : Int) (t7 : Int) (t8 : Int) (s : List Int) : L_index_3 (k + 1) (((), v_, t7, t8, ()), (s, ())) =
  let x0 := ((decide (0 ≤ t8) && decide (t8 < ((s.length : Nat) : Int))) && (Nat.blt t8.toNat s.length))
  let x1 := (L_index_3 k (((), v_, t7, (IntKind.i64.wrap (t8 + 1)), ()), s, ()))
  (bif decide (t8 < t7) then (bif (v_ == (s.getD t8.toNat (0 : Int))) then ⟨x0, false, t8, ((), ()), ()⟩ else ⟨(x0 && x1.ok), x1.pan, x1.ret, x1.out, x1.pv⟩) else ⟨true, false, (-1 : Int), ((), ()), ()⟩) := by kernel_rfl
noncomputable def tbl8 : List (Ent TT) := ⟨136, g_index, F_index⟩ :: tbl7
theorem tbl8_ok : TblOK prog globs tbl8 := tbl_cons (by kernel_rfl) F_index_ok tbl7_ok
noncomputable def C_contains : Cx TT := cxB tbl8 Go.Proofs.Tryz.f135.ntmps [] [] [] []
noncomputable def k_contains (a : g_contains.args.ty) (h : tysO TT g_contains.hp) : Nat := 0
noncomputable def F_contains : g_contains.args.ty → tysO TT g_contains.hp → Res TT g_contains := fun a h => bodyG C_contains g_contains Go.Proofs.Tryz.f135 [] (k_contains a h) a h
theorem F_contains_ok : FOK prog globs 135 g_contains F_contains :=
  bodyG_sound (cx := C_contains) mix (cxB_ok tbl8_ok _ _ _ _ _) (f := 135) (fn := Go.Proofs.Tryz.f135) (by kernel_rfl) (by kernel_rfl) (by kernel_rfl) (by kernel_rfl) _
theorem F_contains_eq (v_ : Int) (s : List Int) : F_contains ((), v_, ()) (s, ()) =
  ⟨(F_index ((), v_, ()) (s, ())).ok, false, decide (((F_index ((), v_, ()) (s, ())).ret : Int) ≥ 0), ((), ()), ()⟩ := by kernel_rfl
noncomputable def tbl9 : List (Ent TT) := ⟨135, g_contains, F_contains⟩ :: tbl8
theorem tbl9_ok : TblOK prog globs tbl9 := tbl_cons (by kernel_rfl) F_contains_ok tbl8_ok
noncomputable def C_business : Cx TT := cxB tbl9 Go.Proofs.Tryz.f131.ntmps [] [] [] []
noncomputable def k_business (a : g_business.args.ty) (h : tysO TT g_business.hp) : Nat := 0
noncomputable def F_business : g_business.args.ty → tysO TT g_business.hp → Res TT g_business := fun a h => bodyG C_business g_business Go.Proofs.Tryz.f131 [] (k_business a h) a h
theorem F_business_ok : FOK prog globs 131 g_business F_business :=
  bodyG_sound (cx := C_business) mix (cxB_ok tbl9_ok _ _ _ _ _) (f := 131) (fn := Go.Proofs.Tryz.f131) (by kernel_rfl) (by kernel_rfl) (by kernel_rfl) (by kernel_rfl) _
theorem F_business_eq (day : Int) (holidays : List Int) : F_business (day, (), ()) (holidays, ()) =
  ⟨(bif (((F_weekday (day, ()) ()).ret : Int × Bool × Unit).2).1 then (bif decide (((F_weekday (day, ()) ()).ret : Int × Bool × Unit).1 ≤ 5) then ((F_weekday (day, ()) ()).ok && (F_contains ((), day, ()) (holidays, ())).ok) else (F_weekday (day, ()) ()).ok) else (F_weekday (day, ()) ()).ok), false, (bif (((F_weekday (day, ()) ()).ret : Int × Bool × Unit).2).1 then (bif decide (((F_weekday (day, ()) ()).ret : Int × Bool × Unit).1 ≤ 5) then (!((F_contains ((), day, ()) (holidays, ())).ret : Bool)) else false) else false), ((), ()), ()⟩ := by kernel_rfl
noncomputable def tbl10 : List (Ent TT) := ⟨131, g_business, F_business⟩ :: tbl9
theorem tbl10_ok : TblOK prog globs tbl10 := tbl_cons (by kernel_rfl) F_business_ok tbl9_ok
noncomputable def C_seek : Cx TT := cxB tbl10 Go.Proofs.Tryz.f125.ntmps [(3, s_seek_3)] [] [] []
noncomputable def k_seek (a : g_seek.args.ty) (h : tysO TT g_seek.hp) : Nat := 200
noncomputable def F_seek : g_seek.args.ty → tysO TT g_seek.hp → Res TT g_seek := fun a h => bodyG C_seek g_seek Go.Proofs.Tryz.f125 [] (k_seek a h) a h
theorem F_seek_ok : FOK prog globs 125 g_seek F_seek :=
  bodyG_sound (cx := C_seek) mix (cxB_ok tbl10_ok _ _ _ _ _) (f := 125) (fn := Go.Proofs.Tryz.f125) (by kernel_rfl) (by kernel_rfl) (by kernel_rfl) (by kernel_rfl) _
noncomputable def L_seek_3 (k : Nat) (v : s_seek_3.ty TT) : Res TT g_seek := loopG C_seek g_seek Go.Proofs.Tryz.f125 [] k (todoF Go.Proofs.Tryz.f125 3) (SS.st s_seek_3 0 v)
theorem F_seek_eq (day : Int) (step : Int) (holidays : List Int) : F_seek (day, (), step, ()) (holidays, ()) =
  (L_seek_3 (k_seek (day, (), step, ()) (holidays, ())) ((day, (), step, (0 : Int), ()), holidays, ())) := by kernel_rfl
theorem L_seek_3_eq (k : Nat) (day : Int) (step : Int) (t8 : Int) (holidays : List Int) : L_seek_3 (k + 1) ((day, (), step, t8, ()), (holidays, ())) =
  let x0 := (L_seek_3 k (((IntKind.i64.wrap (day + step)), (), step, (IntKind.i64.wrap (t8 + 1)), ()), holidays, ()))
  (bif decide (t8 < 11) then (bif ((F_business (day, (), ()) (holidays, ())).ret : Bool) then ⟨(F_business (day, (), ()) (holidays, ())).ok, false, (day, true, ()), ((), ()), ()⟩ else ⟨((F_business (day, (), ()) (holidays, ())).ok && x0.ok), x0.pan, x0.ret, x0.out, x0.pv⟩) else ⟨true, false, ((0 : Int), false, ()), ((), ()), ()⟩) := by kernel_rfl
noncomputable def tbl11 : List (Ent TT) := ⟨125, g_seek, F_seek⟩ :: tbl10
theorem tbl11_ok : TblOK prog globs tbl11 := tbl_cons (by kernel_rfl) F_seek_ok tbl10_ok
noncomputable def C_sameMonth : Cx TT := cxB tbl11 Go.Proofs.Tryz.f126.ntmps [] [] [] []
noncomputable def k_sameMonth (a : g_sameMonth.args.ty) (h : tysO TT g_sameMonth.hp) : Nat := 0
noncomputable def F_sameMonth : g_sameMonth.args.ty → tysO TT g_sameMonth.hp → Res TT g_sameMonth := fun a h => bodyG C_sameMonth g_sameMonth Go.Proofs.Tryz.f126 [] (k_sameMonth a h) a h
theorem F_sameMonth_ok : FOK prog globs 126 g_sameMonth F_sameMonth :=
  bodyG_sound (cx := C_sameMonth) mix (cxB_ok tbl11_ok _ _ _ _ _) (f := 126) (fn := Go.Proofs.Tryz.f126) (by kernel_rfl) (by kernel_rfl) (by kernel_rfl) (by kernel_rfl) _
theorem F_sameMonth_eq (a_ : Int) (b : Int) : F_sameMonth (a_, b, ()) () =
  ⟨((F_civil (a_, ()) ()).ok && (F_civil (b, ()) ()).ok), false, (((((F_civil (a_, ()) ()).ret : (Int × Int × Int × Unit) × Bool × Unit).1).1 == (((F_civil (b, ()) ()).ret : (Int × Int × Int × Unit) × Bool × Unit).1).1) && ((((((F_civil (a_, ()) ()).ret : (Int × Int × Int × Unit) × Bool × Unit).1).2).1 == ((((F_civil (b, ()) ()).ret : (Int × Int × Int × Unit) × Bool × Unit).1).2).1) && ((1 : Int) == (1 : Int)))), (), ()⟩ := by kernel_rfl
noncomputable def tbl12 : List (Ent TT) := ⟨126, g_sameMonth, F_sameMonth⟩ :: tbl11
theorem tbl12_ok : TblOK prog globs tbl12 := tbl_cons (by kernel_rfl) F_sameMonth_ok tbl11_ok
noncomputable def C_adjust : Cx TT := cxB tbl12 Go.Proofs.Tryz.f100.ntmps [] [] [] []
noncomputable def k_adjust (a : g_adjust.args.ty) (h : tysO TT g_adjust.hp) : Nat := 0
noncomputable def F_adjust : g_adjust.args.ty → tysO TT g_adjust.hp → Res TT g_adjust := fun a h => bodyG C_adjust g_adjust Go.Proofs.Tryz.f100 [] (k_adjust a h) a h
theorem F_adjust_ok : FOK prog globs 100 g_adjust F_adjust :=
  bodyG_sound (cx := C_adjust) mix (cxB_ok tbl12_ok _ _ _ _ _) (f := 100) (fn := Go.Proofs.Tryz.f100) (by kernel_rfl) (by kernel_rfl) (by kernel_rfl) (by kernel_rfl) _
theorem F_adjust_eq (day : Int) (rule : Int) (holidays : List Int) : F_adjust (day, (), rule, ()) (holidays, ()) =
  let x0 := (⟨(bif decide (day < 1) then true else true), false, ((0 : Int), false, ()), ((), ()), ()⟩ : Res TT g_adjust)
  let x1 := ((bif decide (day < 1) then true else true) && (F_seek (day, (), (1 : Int), ()) (holidays, ())).ok)
  let x2 := ((F_seek (day, (), (1 : Int), ()) (holidays, ())).ret : Int × Bool × Unit)
  let x3 := (F_seek (day, (), (-1 : Int), ()) (holidays, ())).ok
  let x4 := ((F_seek (day, (), (-1 : Int), ()) (holidays, ())).ret : Int × Bool × Unit)
  let x5 := x2.2.1
  let x6 := x2.1
  let x7 := (F_sameMonth (day, x6, ()) ())
  let x8 := (bif x5 then (x1 && x7.ok) else x1)
  (bif (bif decide (day < 1) then true else decide (day > 3652059)) then x0 else (bif (rule == 0) then ⟨(bif decide (day < 1) then true else true), false, (day, true, ()), ((), ()), ()⟩ else (bif (rule == 1) then ⟨x1, false, x2, ((), ()), ()⟩ else (bif (rule == 2) then ⟨((bif decide (day < 1) then true else true) && x3), false, x4, ((), ()), ()⟩ else (bif (rule == 3) then (bif (bif x5 then (x7.ret : Bool) else false) then ⟨x8, false, (x6, true, ()), ((), ()), ()⟩ else ⟨(x8 && x3), false, x4, ((), ()), ()⟩) else x0))))) := by kernel_rfl
noncomputable def tbl13 : List (Ent TT) := ⟨100, g_adjust, F_adjust⟩ :: tbl12
theorem tbl13_ok : TblOK prog globs tbl13 := tbl_cons (by kernel_rfl) F_adjust_ok tbl12_ok
noncomputable def C_mul64 : Cx TT := cxB tbl13 Go.Proofs.Tryz.f120.ntmps [] [] [] []
noncomputable def k_mul64 (a : g_mul64.args.ty) (h : tysO TT g_mul64.hp) : Nat := 0
noncomputable def F_mul64 : g_mul64.args.ty → tysO TT g_mul64.hp → Res TT g_mul64 := fun a h => bodyG C_mul64 g_mul64 Go.Proofs.Tryz.f120 [] (k_mul64 a h) a h
theorem F_mul64_ok : FOK prog globs 120 g_mul64 F_mul64 :=
  bodyG_sound (cx := C_mul64) mix (cxB_ok tbl13_ok _ _ _ _ _) (f := 120) (fn := Go.Proofs.Tryz.f120) (by kernel_rfl) (by kernel_rfl) (by kernel_rfl) (by kernel_rfl) _
theorem F_mul64_eq (x : Int) (y : Int) : F_mul64 (x, y, ()) () =
  let x0 := (IntKind.u64.wrap ((((y % (((2 ^ 64) : Nat) : Int)).toNat &&& (4294967295 % (((2 ^ 64) : Nat) : Int)).toNat) : Nat) : Int))
  let x1 := (IntKind.u64.wrap ((((x % (((2 ^ 64) : Nat) : Int)).toNat &&& (4294967295 % (((2 ^ 64) : Nat) : Int)).toNat) : Nat) : Int))
  let x2 := (IntKind.u64.wrap ((IntKind.u64.wrap ((x.fdiv (2 ^ (min ((32 : Int).toNat) 64))) * x0)) + ((IntKind.u64.wrap (x1 * x0)).fdiv (2 ^ (min ((32 : Int).toNat) 64)))))
  ⟨true, false, ((IntKind.u64.wrap ((IntKind.u64.wrap ((IntKind.u64.wrap ((x.fdiv (2 ^ (min ((32 : Int).toNat) 64))) * (y.fdiv (2 ^ (min ((32 : Int).toNat) 64))))) + (x2.fdiv (2 ^ (min ((32 : Int).toNat) 64))))) + ((IntKind.u64.wrap ((IntKind.u64.wrap ((((x2 % (((2 ^ 64) : Nat) : Int)).toNat &&& (4294967295 % (((2 ^ 64) : Nat) : Int)).toNat) : Nat) : Int)) + (IntKind.u64.wrap (x1 * (y.fdiv (2 ^ (min ((32 : Int).toNat) 64))))))).fdiv (2 ^ (min ((32 : Int).toNat) 64))))), (IntKind.u64.wrap (x * y)), ()), (), ()⟩ := by kernel_rfl
noncomputable def tbl14 : List (Ent TT) := ⟨120, g_mul64, F_mul64⟩ :: tbl13
theorem tbl14_ok : TblOK prog globs tbl14 := tbl_cons (by kernel_rfl) F_mul64_ok tbl13_ok
noncomputable def C_div64 : Cx TT := cxB tbl14 Go.Proofs.Tryz.f121.ntmps [(18, s_div64_18), (25, s_div64_25)] [] [] []
noncomputable def k_div64 (a : g_div64.args.ty) (h : tysO TT g_div64.hp) : Nat := 200
noncomputable def F_div64 : g_div64.args.ty → tysO TT g_div64.hp → Res TT g_div64 := fun a h => bodyG C_div64 g_div64 Go.Proofs.Tryz.f121 [] (k_div64 a h) a h
theorem F_div64_ok : FOK prog globs 121 g_div64 F_div64 :=
  bodyG_sound (cx := C_div64) mix (cxB_ok tbl14_ok _ _ _ _ _) (f := 121) (fn := Go.Proofs.Tryz.f121) (by kernel_rfl) (by kernel_rfl) (by kernel_rfl) (by kernel_rfl) _
theorem F_div64_eq (hi : Int) (lo : Int) (y : Int) : F_div64 (hi, lo, y, ()) () =
  (bif (y == 0) then ⟨false, false, ((0 : Int), (0 : Int), ()), (), ()⟩ else (bif decide (y ≤ hi) then ⟨false, false, ((0 : Int), (0 : Int), ()), (), ()⟩ else (bif (hi == 0) then ⟨((y != 0) && (y != 0)), false, ((IntKind.u64.wrap (lo.tdiv y)), (lo.tmod y), ()), (), ()⟩ else ⟨false, false, ((0 : Int), (0 : Int), ()), (), ()⟩))) := by kernel_rfl
noncomputable def tbl15 : List (Ent TT) := ⟨121, g_div64, F_div64⟩ :: tbl14
theorem tbl15_ok : TblOK prog globs tbl15 := tbl_cons (by kernel_rfl) F_div64_ok tbl14_ok
noncomputable def C_withSign : Cx TT := cxB tbl15 Go.Proofs.Tryz.f122.ntmps [] [] [] []
noncomputable def k_withSign (a : g_withSign.args.ty) (h : tysO TT g_withSign.hp) : Nat := 0
noncomputable def F_withSign : g_withSign.args.ty → tysO TT g_withSign.hp → Res TT g_withSign := fun a h => bodyG C_withSign g_withSign Go.Proofs.Tryz.f122 [] (k_withSign a h) a h
theorem F_withSign_ok : FOK prog globs 122 g_withSign F_withSign :=
  bodyG_sound (cx := C_withSign) mix (cxB_ok tbl15_ok _ _ _ _ _) (f := 122) (fn := Go.Proofs.Tryz.f122) (by kernel_rfl) (by kernel_rfl) (by kernel_rfl) (by kernel_rfl) _
theorem F_withSign_eq (neg : Bool) (m : Int) : F_withSign (neg, m, ()) () =
  (bif neg then (bif decide (m > 9223372036854775808) then ⟨true, false, ((0 : Int), false, ()), (), ()⟩ else ⟨true, false, ((IntKind.i64.wrap (IntKind.u64.wrap (0 - m))), true, ()), (), ()⟩) else (bif decide (m > 9223372036854775807) then ⟨true, false, ((0 : Int), false, ()), (), ()⟩ else ⟨true, false, ((IntKind.i64.wrap m), true, ()), (), ()⟩)) := by kernel_rfl
noncomputable def tbl16 : List (Ent TT) := ⟨122, g_withSign, F_withSign⟩ :: tbl15
theorem tbl16_ok : TblOK prog globs tbl16 := tbl_cons (by kernel_rfl) F_withSign_ok tbl15_ok
noncomputable def C_mulDiv : Cx TT := cxB tbl16 Go.Proofs.Tryz.f98.ntmps [] [] [] []
noncomputable def k_mulDiv (a : g_mulDiv.args.ty) (h : tysO TT g_mulDiv.hp) : Nat := 0
noncomputable def F_mulDiv : g_mulDiv.args.ty → tysO TT g_mulDiv.hp → Res TT g_mulDiv := fun a h => bodyG C_mulDiv g_mulDiv Go.Proofs.Tryz.f98 [] (k_mulDiv a h) a h
theorem F_mulDiv_ok : FOK prog globs 98 g_mulDiv F_mulDiv :=
  bodyG_sound (cx := C_mulDiv) mix (cxB_ok tbl16_ok _ _ _ _ _) (f := 98) (fn := Go.Proofs.Tryz.f98) (by kernel_rfl) (by kernel_rfl) (by kernel_rfl) (by kernel_rfl) _
theorem F_mulDiv_eq (a_ : Int) (b : Int) (c : Int) : F_mulDiv (a_, b, c, ()) () =
  let x0 := (bif decide (c < 0) then (IntKind.u64.wrap (0 - (IntKind.u64.wrap c))) else (IntKind.u64.wrap c))
  let x1 := (x0 == 0)
  let x2 := (F_mul64 ((IntKind.u64.wrap (0 - (IntKind.u64.wrap a_))), (IntKind.u64.wrap (0 - (IntKind.u64.wrap b))), ()) ())
  let x3 := (x2.ret : Int × Int × Unit)
  let x4 := (F_mul64 ((IntKind.u64.wrap (0 - (IntKind.u64.wrap a_))), (IntKind.u64.wrap b), ()) ())
  let x5 := (x4.ret : Int × Int × Unit)
  let x6 := (F_mul64 ((IntKind.u64.wrap a_), (IntKind.u64.wrap (0 - (IntKind.u64.wrap b))), ()) ())
  let x7 := (x6.ret : Int × Int × Unit)
  let x8 := ((F_mul64 ((IntKind.u64.wrap a_), (IntKind.u64.wrap b), ()) ()).ret : Int × Int × Unit)
  let x9 := (bif decide (a_ < 0) then (bif decide (b < 0) then x3.1 else x5.1) else (bif decide (b < 0) then x7.1 else x8.1))
  let x10 := (bif decide (a_ < 0) then (bif decide (b < 0) then ((((bif decide (c < 0) then true else true) && true) && true) && x2.ok) else ((((bif decide (c < 0) then true else true) && true) && true) && x4.ok)) else (bif decide (b < 0) then ((((bif decide (c < 0) then true else true) && true) && true) && x6.ok) else ((((bif decide (c < 0) then true else true) && true) && true) && (F_mul64 ((IntKind.u64.wrap a_), (IntKind.u64.wrap b), ()) ()).ok)))
  let x11 := (bif x1 then x10 else x10)
  let x12 := (F_div64 (x9, (bif decide (a_ < 0) then (bif decide (b < 0) then x3.2.1 else x5.2.1) else (bif decide (b < 0) then x7.2.1 else x8.2.1)), x0, ()) ())
  let x13 := (x12.ret : Int × Int × Unit)
  let x14 := x13.2.1
  let x15 := (IntKind.u64.wrap (x0 - x14))
  let x16 := decide (x14 > x15)
  let x17 := (x14 == x15)
  let x18 := x13.1
  let x19 := (IntKind.u64.wrap (x18 + 1))
  let x20 := (x11 && x12.ok)
  let x21 := (bif x16 then x20 else (bif x17 then x20 else x20))
  let x22 := (!((!(decide (a_ < 0) == decide (b < 0))) == decide (c < 0)))
  let x23 := (F_withSign (x22, x19, ()) ())
  let x24 := (F_withSign (x22, x18, ()) ())
  (bif (bif x1 then true else decide (x9 ≥ x0)) then ⟨x11, false, ((0 : Int), false, ()), (), ()⟩ else (bif (bif x16 then true else (bif x17 then ((IntKind.u64.wrap ((((x18 % (((2 ^ 64) : Nat) : Int)).toNat &&& (1 % (((2 ^ 64) : Nat) : Int)).toNat) : Nat) : Int)) == 1) else false)) then (bif (x19 == 0) then ⟨x21, false, ((0 : Int), false, ()), (), ()⟩ else ⟨(x21 && x23.ok), false, x23.ret, (), ()⟩) else ⟨(x21 && x24.ok), false, x24.ret, (), ()⟩)) := by kernel_rfl
noncomputable def tbl17 : List (Ent TT) := ⟨98, g_mulDiv, F_mulDiv⟩ :: tbl16
theorem tbl17_ok : TblOK prog globs tbl17 := tbl_cons (by kernel_rfl) F_mulDiv_ok tbl16_ok
noncomputable def C_month : Cx TT := cxB tbl17 Go.Proofs.Tryz.f55.ntmps [] [] [] []
noncomputable def k_month (a : g_month.args.ty) (h : tysO TT g_month.hp) : Nat := 0
noncomputable def F_month : g_month.args.ty → tysO TT g_month.hp → Res TT g_month := fun a h => bodyG C_month g_month Go.Proofs.Tryz.f55 [] (k_month a h) a h
theorem F_month_ok : FOK prog globs 55 g_month F_month :=
  bodyG_sound (cx := C_month) mix (cxB_ok tbl17_ok _ _ _ _ _) (f := 55) (fn := Go.Proofs.Tryz.f55) (by kernel_rfl) (by kernel_rfl) (by kernel_rfl) (by kernel_rfl) _
theorem F_month_eq (balance : Int) (rate : Int) : F_month (balance, rate, ()) () =
  let x0 := (bif decide (balance < 0) then true else (bif decide (rate ≥ 0) then true else true))
  (bif (bif decide (balance < 0) then true else (!(bif decide (rate ≥ 0) then decide (rate ≤ 100000) else false))) then ⟨x0, false, ((0 : Int), false, ()), (), ()⟩ else ⟨(x0 && (F_mulDiv (balance, rate, (120000 : Int), ()) ()).ok), false, ((F_mulDiv (balance, rate, (120000 : Int), ()) ()).ret : Int × Bool × Unit), (), ()⟩) := by kernel_rfl
noncomputable def tbl18 : List (Ent TT) := ⟨55, g_month, F_month⟩ :: tbl17
theorem tbl18_ok : TblOK prog globs tbl18 := tbl_cons (by kernel_rfl) F_month_ok tbl17_ok
end Go.Proofs.YtklpneeakhbahaaGreatDoor.Fs
end
section
set_option linter.unusedVariables false
set_option maxRecDepth 100000
set_option linter.unusedSimpArgs false
namespace Go.Proofs.YtklpneeakhbahaaGreatDoor.Fs
open Go Go.Proofs.YtklpneeakhbahaaGreatDoor.Ls
noncomputable def C_pays : Cx TT := cxB tbl18 Go.Proofs.Tryz.f53.ntmps [(3, s_pays_3)] [] [] []
noncomputable def k_pays (a : g_pays.args.ty) (h : tysO TT g_pays.hp) : Nat := a.2.2.2.1.toNat + 2
noncomputable def F_pays : g_pays.args.ty → tysO TT g_pays.hp → Res TT g_pays := fun a h => bodyG C_pays g_pays Go.Proofs.Tryz.f53 [] (k_pays a h) a h
theorem F_pays_ok : FOK prog globs 53 g_pays F_pays :=
  bodyG_sound (cx := C_pays) mix (cxB_ok tbl18_ok _ _ _ _ _) (f := 53) (fn := Go.Proofs.Tryz.f53) (by kernel_rfl) (by kernel_rfl) (by kernel_rfl) (by kernel_rfl) _
noncomputable def L_pays_3 (k : Nat) (v : s_pays_3.ty TT) : Res TT g_pays := loopG C_pays g_pays Go.Proofs.Tryz.f53 [] k (todoF Go.Proofs.Tryz.f53 3) (SS.st s_pays_3 0 v)
theorem F_pays_eq (payment : Int) (balance : Int) (rate : Int) (count : Int) : F_pays (payment, balance, rate, count, ()) () =
  (L_pays_3 (k_pays (payment, balance, rate, count, ()) ()) ((payment, balance, rate, count, (0 : Int), ()), ())) := by kernel_rfl
theorem L_pays_3_eq (k : Nat) (payment : Int) (balance : Int) (rate : Int) (t11 : Int) (t12 : Int) : L_pays_3 (k + 1) ((payment, balance, rate, t11, t12, ()), ()) =
  let x0 := (IntKind.i64.wrap (payment - ((F_month (balance, rate, ()) ()).ret : Int × Bool × Unit).1))
  let x1 := (L_pays_3 k ((payment, (IntKind.i64.wrap (balance - x0)), rate, t11, (IntKind.i64.wrap (t12 + 1)), ()), ()))
  (bif decide (t12 < t11) then (bif decide (payment ≤ ((F_month (balance, rate, ()) ()).ret : Int × Bool × Unit).1) then ⟨(F_month (balance, rate, ()) ()).ok, false, false, (), ()⟩ else (bif decide (balance ≤ x0) then ⟨(F_month (balance, rate, ()) ()).ok, false, true, (), ()⟩ else ⟨((F_month (balance, rate, ()) ()).ok && x1.ok), x1.pan, x1.ret, x1.out, x1.pv⟩)) else ⟨true, false, false, (), ()⟩) := by kernel_rfl
noncomputable def tbl19 : List (Ent TT) := ⟨53, g_pays, F_pays⟩ :: tbl18
theorem tbl19_ok : TblOK prog globs tbl19 := tbl_cons (by kernel_rfl) F_pays_ok tbl18_ok
noncomputable def C_least : Cx TT := cxB tbl19 Go.Proofs.Tryz.f54.ntmps [(2, s_least_2)] [] [] []
noncomputable def k_least (a : g_least.args.ty) (h : tysO TT g_least.hp) : Nat := 200
noncomputable def F_least : g_least.args.ty → tysO TT g_least.hp → Res TT g_least := fun a h => bodyG C_least g_least Go.Proofs.Tryz.f54 [] (k_least a h) a h
theorem F_least_ok : FOK prog globs 54 g_least F_least :=
  bodyG_sound (cx := C_least) mix (cxB_ok tbl19_ok _ _ _ _ _) (f := 54) (fn := Go.Proofs.Tryz.f54) (by kernel_rfl) (by kernel_rfl) (by kernel_rfl) (by kernel_rfl) _
noncomputable def L_least_2 (k : Nat) (v : s_least_2.ty TT) : Res TT g_least := loopG C_least g_least Go.Proofs.Tryz.f54 [] k (todoF Go.Proofs.Tryz.f54 2) (SS.st s_least_2 0 v)
theorem F_least_eq (low : Int) (high : Int) (principal : Int × Unit) (rate : Int × Unit) (count : Int × Unit) : F_least (low, high, ((), (), (), ()), ()) (principal, rate, count, ()) =
  (L_least_2 (k_least (low, high, ((), (), (), ()), ()) (principal, rate, count, ())) ((low, high, ((), (), (), ()), ()), principal, rate, count, ())) := by kernel_rfl
theorem L_least_2_eq (k : Nat) (low : Int) (high : Int) (enough : Unit × Unit × Unit × Unit) (principal : Int × Unit) (rate : Int × Unit) (count : Int × Unit) : L_least_2 (k + 1) ((low, high, enough, ()), (principal, rate, count, ())) =
  let x0 := (IntKind.i64.wrap (low + (IntKind.i64.wrap ((IntKind.i64.wrap (high - low)).tdiv (2 : Int)))))
  let x1 := (F_pays (x0, principal.1, rate.1, count) ())
  let x2 := (x1.ret : Bool)
  let x3 := x1.ok
  let x4 := (L_least_2 k (((bif x2 then low else (IntKind.i64.wrap (x0 + 1))), (bif x2 then x0 else high), ((), (), (), ()), ()), principal, rate, count, ()))
  (bif decide (low < high) then ⟨((bif x2 then x3 else x3) && x4.ok), x4.pan, x4.ret, x4.out, x4.pv⟩ else ⟨true, false, low, ((), (), (), ()), ()⟩) := by kernel_rfl
noncomputable def tbl20 : List (Ent TT) := ⟨54, g_least, F_least⟩ :: tbl19
theorem tbl20_ok : TblOK prog globs tbl20 := tbl_cons (by kernel_rfl) F_least_ok tbl19_ok
noncomputable def C_level : Cx TT := cxB tbl20 Go.Proofs.Tryz.f31.ntmps [] [] [] []
noncomputable def k_level (a : g_level.args.ty) (h : tysO TT g_level.hp) : Nat := 0
noncomputable def F_level : g_level.args.ty → tysO TT g_level.hp → Res TT g_level := fun a h => bodyG C_level g_level Go.Proofs.Tryz.f31 [] (k_level a h) a h
theorem F_level_ok : FOK prog globs 31 g_level F_level :=
  bodyG_sound (cx := C_level) mix (cxB_ok tbl20_ok _ _ _ _ _) (f := 31) (fn := Go.Proofs.Tryz.f31) (by kernel_rfl) (by kernel_rfl) (by kernel_rfl) (by kernel_rfl) _
theorem F_level_eq (principal : Int) (rate : Int) (count : Int) : F_level (principal, rate, count, ()) () =
  let x0 := (bif decide (principal < 1) then true else (bif (!(bif decide (rate ≥ 0) then decide (rate ≤ 100000) else false)) then (bif decide (rate ≥ 0) then true else true) else (bif decide (count < 1) then (bif decide (rate ≥ 0) then true else true) else (bif decide (rate ≥ 0) then true else true))))
  let x1 := (x0 && (F_pays ((9223372036854775807 : Int), principal, rate, count, ()) ()).ok)
  let x2 := (F_least ((1 : Int), (9223372036854775807 : Int), ((), (), (), ()), ()) ((principal, ()), (rate, ()), (count, ()), ()))
  (bif (bif decide (principal < 1) then true else (bif (!(bif decide (rate ≥ 0) then decide (rate ≤ 100000) else false)) then true else (bif decide (count < 1) then true else decide (count > 120)))) then ⟨x0, false, ((0 : Int), false, ()), (), ()⟩ else (bif (!((F_pays ((9223372036854775807 : Int), principal, rate, count, ()) ()).ret : Bool)) then ⟨x1, false, ((0 : Int), false, ()), (), ()⟩ else ⟨(x1 && x2.ok), false, ((x2.ret : Int), true, ()), (), ()⟩)) := by kernel_rfl
noncomputable def tbl21 : List (Ent TT) := ⟨31, g_level, F_level⟩ :: tbl20
theorem tbl21_ok : TblOK prog globs tbl21 := tbl_cons (by kernel_rfl) F_level_ok tbl20_ok
noncomputable def C_valid : Cx TT := cxB tbl21 Go.Proofs.Tryz.f29.ntmps [] [] [] []
noncomputable def k_valid (a : g_valid.args.ty) (h : tysO TT g_valid.hp) : Nat := 0
noncomputable def F_valid : g_valid.args.ty → tysO TT g_valid.hp → Res TT g_valid := fun a h => bodyG C_valid g_valid Go.Proofs.Tryz.f29 [] (k_valid a h) a h
theorem F_valid_ok : FOK prog globs 29 g_valid F_valid :=
  bodyG_sound (cx := C_valid) mix (cxB_ok tbl21_ok _ _ _ _ _) (f := 29) (fn := Go.Proofs.Tryz.f29) (by kernel_rfl) (by kernel_rfl) (by kernel_rfl) (by kernel_rfl) _
theorem F_valid_eq (t : T25) : F_valid (t, ()) () =
  let x0 := (bif decide (t.2.2.1 ≥ 0) then decide (t.2.2.1 ≤ 100000) else false)
  ⟨(bif decide (t.1 ≥ 0) then (bif decide (t.1 ≤ 2) then (bif decide (t.2.1 ≥ 1) then (bif decide (t.2.1 ≤ 10000000000000) then (bif x0 then (bif decide (t.2.2.2.1 ≥ 1) then (bif decide (t.2.2.2.1 ≤ 120) then (bif decide (t.2.2.2.2.1 ≥ 1) then (bif decide (t.2.2.2.2.1 ≤ 3652059) then (bif decide (t.2.2.2.2.2.1 ≥ 0) then (bif decide (t.2.2.1 ≥ 0) then true else true) else (bif decide (t.2.2.1 ≥ 0) then true else true)) else (bif decide (t.2.2.1 ≥ 0) then true else true)) else (bif decide (t.2.2.1 ≥ 0) then true else true)) else (bif decide (t.2.2.1 ≥ 0) then true else true)) else (bif decide (t.2.2.1 ≥ 0) then true else true)) else (bif decide (t.2.2.1 ≥ 0) then true else true)) else true) else true) else true) else true), false, (bif decide (t.1 ≥ 0) then (bif decide (t.1 ≤ 2) then (bif decide (t.2.1 ≥ 1) then (bif decide (t.2.1 ≤ 10000000000000) then (bif x0 then (bif decide (t.2.2.2.1 ≥ 1) then (bif decide (t.2.2.2.1 ≤ 120) then (bif decide (t.2.2.2.2.1 ≥ 1) then (bif decide (t.2.2.2.2.1 ≤ 3652059) then (bif decide (t.2.2.2.2.2.1 ≥ 0) then decide (t.2.2.2.2.2.1 ≤ 3) else false) else false) else false) else false) else false) else false) else false) else false) else false) else false), (), ()⟩ := by kernel_rfl
noncomputable def tbl22 : List (Ent TT) := ⟨29, g_valid, F_valid⟩ :: tbl21
theorem tbl22_ok : TblOK prog globs tbl22 := tbl_cons (by kernel_rfl) F_valid_ok tbl21_ok
noncomputable def C_plan : Cx TT := cxB tbl22 Go.Proofs.Tryz.f13.ntmps [(17, s_plan_17), (17, s_plan_17_1), (17, s_plan_17_2)] [] [42, 62, 1000018] []
noncomputable def k_plan (a : g_plan.args.ty) (h : tysO TT g_plan.hp) : Nat := a.1.2.2.2.1.toNat + 2
noncomputable def F_plan : g_plan.args.ty → tysO TT g_plan.hp → Res TT g_plan := fun a h => bodyG C_plan g_plan Go.Proofs.Tryz.f13 [] (k_plan a h) a h
theorem F_plan_ok : FOK prog globs 13 g_plan F_plan :=
  bodyG_sound (cx := C_plan) mix (cxB_ok tbl22_ok _ _ _ _ _) (f := 13) (fn := Go.Proofs.Tryz.f13) (by kernel_rfl) (by kernel_rfl) (by kernel_rfl) (by kernel_rfl) _
noncomputable def L_plan_17 (k : Nat) (v : s_plan_17.ty TT) : Res TT g_plan := loopG C_plan g_plan Go.Proofs.Tryz.f13 [] k (todoF Go.Proofs.Tryz.f13 17) (SS.st s_plan_17 0 v)
noncomputable def L_plan_17_1 (k : Nat) (v : s_plan_17_1.ty TT) : Res TT g_plan := loopG C_plan g_plan Go.Proofs.Tryz.f13 [] k (todoF Go.Proofs.Tryz.f13 17) (SS.st s_plan_17_1 0 v)
noncomputable def L_plan_17_2 (k : Nat) (v : s_plan_17_2.ty TT) : Res TT g_plan := loopG C_plan g_plan Go.Proofs.Tryz.f13 [] k (todoF Go.Proofs.Tryz.f13 17) (SS.st s_plan_17_2 0 v)
theorem F_plan_eq (t : T25) (holidays : List Int) : F_plan (t, (), ()) (holidays, ()) =
  let x0 := (bif (!((F_valid (t, ()) ()).ret : Bool)) then (F_valid (t, ()) ()).ok else (F_valid (t, ()) ()).ok)
  let x1 := (((F_civil (t.2.2.2.2.1, ()) ()).ret : (Int × Int × Int × Unit) × Bool × Unit).2).1
  let x2 := (x0 && (F_civil (t.2.2.2.2.1, ()) ()).ok)
  let x3 := (F_level (t.2.1, t.2.2.1, t.2.2.2.1, ()) ())
  let x4 := (x3.ret : Int × Bool × Unit)
  let x5 := (((((F_civil (t.2.2.2.2.1, ()) ()).ret : (Int × Int × Int × Unit) × Bool × Unit).1).2).2).1
  let x6 := (L_plan_17 (k_plan (t, (), ()) (holidays, ())) (((), x4.2.1, (), (), (1 : Int), ()), holidays, t, (t, (), x5, x4.1, t.2.1, ((), ()), ()), ([] : List (Int × Int × Int × Bool × Unit)), ()))
  let x7 := (L_plan_17_1 (k_plan (t, (), ()) (holidays, ())) (((), x1, (), (), (1 : Int), ()), holidays, t, (t, (), x5, (0 : Int), t.2.1, ((), ()), ()), ([] : List (Int × Int × Int × Bool × Unit)), ()))
  let x8 := (L_plan_17_2 (k_plan (t, (), ()) (holidays, ())) (((), x1, (), (), (1 : Int), ()), holidays, t, (t, (), x5, (0 : Int), t.2.1, ((), ()), ()), ([] : List (Int × Int × Int × Bool × Unit)), ()))
  (bif (bif (!((F_valid (t, ()) ()).ret : Bool)) then true else decide (((holidays.length : Nat) : Int) > 64)) then ⟨x0, false, ((), false, ()), ((), ([] : List (Int × Int × Int × Bool × Unit)), ()), ()⟩ else (bif (!x1) then ⟨x2, false, ((), false, ()), ((), ([] : List (Int × Int × Int × Bool × Unit)), ()), ()⟩ else (bif (t.1 == 0) then ⟨((x2 && x3.ok) && x6.ok), x6.pan, x6.ret, x6.out, x6.pv⟩ else (bif (t.1 == 1) then ⟨(x2 && x7.ok), x7.pan, x7.ret, x7.out, x7.pv⟩ else ⟨(x2 && x8.ok), x8.pan, x8.ret, x8.out, x8.pv⟩)))) := by kernel_rfl
theorem L_plan_17_eq (k : Nat) (ok : Bool) (k_ : Int) (holidays : List Int) (t : T25) (p : (T25 × Unit × Int × Int × Int × (Unit × Unit) × Unit)) (plan : List T99) : L_plan_17 (k + 1) (((), ok, (), (), k_, ()), (holidays, t, p, plan, ())) =
  let x0 := (F_month (p.2.2.2.2.1, p.1.2.2.1, ()) ())
  let x1 := (x0.ret : Int × Bool × Unit)
  let x2 := (bif ok then (bif decide (p.2.2.2.2.1 > 0) then true else true) else true)
  let x3 := x0.ok
  let x4 := (L_plan_17 k (((), false, (), (), (IntKind.i64.wrap (k_ + 1)), ()), holidays, t, p, ([] : List (Int × Int × Int × Bool × Unit)), ()))
  let x5 := x4.ok
  let x6 := x4.pan
  let x7 := (x4.ret : Unit × Bool × Unit)
  let x8 := (x4.out : Unit × (List (Int × Int × Int × Bool × Unit)) × Unit)
  let x9 := (x4.pv : Unit)
  let x10 := x1.1
  let x11 := (x10 == 0)
  let x12 := (IntKind.i64.wrap (p.2.2.2.1 - x10))
  let x13 := (if (p.2.2.2.2.1 < x12) then p.2.2.2.2.1 else x12)
  let x14 := (x3 && true)
  let x15 := (bif x11 then x14 else x14)
  let x16 := (L_plan_17 k (((), true, (), (), (IntKind.i64.wrap (k_ + 1)), ()), holidays, t, p, plan, ()))
  let x17 := (F_addMonths (p.1.2.2.2.2.1, k_, p.2.2.1, ()) ())
  let x18 := (x17.ret : Int × Bool × Unit)
  let x19 := (!x18.2.1)
  let x20 := (F_adjust (x18.1, (), p.1.2.2.2.2.2) (holidays, ()))
  let x21 := (x20.ret : Int × Bool × Unit)
  let x22 := x17.ok
  let x23 := (bif x19 then (x15 && x22) else (x15 && (x22 && x20.ok)))
  let x24 := [((bif x19 then (0 : Int) else x21.1), x10, x13, false, ())]
  let x25 := (L_plan_17 k (((), true, (), (), (IntKind.i64.wrap (k_ + 1)), ()), holidays, t, (p.1, (), p.2.2.1, p.2.2.2.1, (IntKind.i64.wrap (p.2.2.2.2.1 - x13)), ((), ()), ()), (plan ++ x24), ()))
  (bif (bif ok then (bif decide (p.2.2.2.2.1 > 0) then decide (k_ ≤ t.2.2.2.1) else false) else false) then (bif (!x1.2.1) then ⟨((x2 && x3) && x5), x6, x7, x8, x9⟩ else (bif (bif x11 then (x13 == 0) else false) then ⟨((x2 && x15) && x16.ok), x16.pan, x16.ret, x16.out, x16.pv⟩ else (bif (!(bif x19 then false else x21.2.1)) then ⟨((x2 && x23) && x5), x6, x7, x8, x9⟩ else ⟨((x2 && (x23 && (Nat.ble ((plan.length + x24.length) * 32) 140737488355328))) && x25.ok), x25.pan, x25.ret, x25.out, x25.pv⟩))) else (bif (!ok) then ⟨x2, false, ((), false, ()), ((), ([] : List (Int × Int × Int × Bool × Unit)), ()), ()⟩ else ⟨x2, false, ((), true, ()), ((), plan, ()), ()⟩)) := by kernel_rfl
theorem L_plan_17_1_eq (k : Nat) (ok : Bool) (k_ : Int) (holidays : List Int) (t : T25) (p : (T25 × Unit × Int × Int × Int × (Unit × Unit) × Unit)) (plan : List T99) : L_plan_17_1 (k + 1) (((), ok, (), (), k_, ()), (holidays, t, p, plan, ())) =
  let x0 := (F_month (p.2.2.2.2.1, p.1.2.2.1, ()) ())
  let x1 := (x0.ret : Int × Bool × Unit)
  let x2 := (bif ok then (bif decide (p.2.2.2.2.1 > 0) then true else true) else true)
  let x3 := x0.ok
  let x4 := (L_plan_17_1 k (((), false, (), (), (IntKind.i64.wrap (k_ + 1)), ()), holidays, t, p, ([] : List (Int × Int × Int × Bool × Unit)), ()))
  let x5 := x4.ok
  let x6 := x4.pan
  let x7 := (x4.ret : Unit × Bool × Unit)
  let x8 := (x4.out : Unit × (List (Int × Int × Int × Bool × Unit)) × Unit)
  let x9 := (x4.pv : Unit)
  let x10 := x1.1
  let x11 := (x10 == 0)
  let x12 := decide (k_ ≤ (p.1.2.1.tmod p.1.2.2.2.1))
  let x13 := (IntKind.i64.wrap (p.1.2.1.tdiv p.1.2.2.2.1))
  let x14 := (bif x12 then (IntKind.i64.wrap (x13 + 1)) else x13)
  let x15 := ((p.1.2.2.2.1 != 0) && (p.1.2.2.2.1 != 0))
  let x16 := (x3 && (bif x12 then x15 else x15))
  let x17 := (bif x11 then x16 else x16)
  let x18 := (L_plan_17_1 k (((), true, (), (), (IntKind.i64.wrap (k_ + 1)), ()), holidays, t, p, plan, ()))
  let x19 := (F_addMonths (p.1.2.2.2.2.1, k_, p.2.2.1, ()) ())
  let x20 := (x19.ret : Int × Bool × Unit)
  let x21 := (!x20.2.1)
  let x22 := (F_adjust (x20.1, (), p.1.2.2.2.2.2) (holidays, ()))
  let x23 := (x22.ret : Int × Bool × Unit)
  let x24 := x19.ok
  let x25 := (bif x21 then (x17 && x24) else (x17 && (x24 && x22.ok)))
  let x26 := [((bif x21 then (0 : Int) else x23.1), x10, x14, false, ())]
  let x27 := (L_plan_17_1 k (((), true, (), (), (IntKind.i64.wrap (k_ + 1)), ()), holidays, t, (p.1, (), p.2.2.1, p.2.2.2.1, (IntKind.i64.wrap (p.2.2.2.2.1 - x14)), ((), ()), ()), (plan ++ x26), ()))
  (bif (bif ok then (bif decide (p.2.2.2.2.1 > 0) then decide (k_ ≤ t.2.2.2.1) else false) else false) then (bif (!x1.2.1) then ⟨((x2 && x3) && x5), x6, x7, x8, x9⟩ else (bif (bif x11 then (x14 == 0) else false) then ⟨((x2 && x17) && x18.ok), x18.pan, x18.ret, x18.out, x18.pv⟩ else (bif (!(bif x21 then false else x23.2.1)) then ⟨((x2 && x25) && x5), x6, x7, x8, x9⟩ else ⟨((x2 && (x25 && (Nat.ble ((plan.length + x26.length) * 32) 140737488355328))) && x27.ok), x27.pan, x27.ret, x27.out, x27.pv⟩))) else (bif (!ok) then ⟨x2, false, ((), false, ()), ((), ([] : List (Int × Int × Int × Bool × Unit)), ()), ()⟩ else ⟨x2, false, ((), true, ()), ((), plan, ()), ()⟩)) := by kernel_rfl
theorem L_plan_17_2_eq (k : Nat) (ok : Bool) (k_ : Int) (holidays : List Int) (t : T25) (p : (T25 × Unit × Int × Int × Int × (Unit × Unit) × Unit)) (plan : List T99) : L_plan_17_2 (k + 1) (((), ok, (), (), k_, ()), (holidays, t, p, plan, ())) =
  let x0 := (F_month (p.2.2.2.2.1, p.1.2.2.1, ()) ())
  let x1 := (x0.ret : Int × Bool × Unit)
  let x2 := (bif ok then (bif decide (p.2.2.2.2.1 > 0) then true else true) else true)
  let x3 := x0.ok
  let x4 := (L_plan_17_2 k (((), false, (), (), (IntKind.i64.wrap (k_ + 1)), ()), holidays, t, p, ([] : List (Int × Int × Int × Bool × Unit)), ()))
  let x5 := x4.ok
  let x6 := x4.pan
  let x7 := (x4.ret : Unit × Bool × Unit)
  let x8 := (x4.out : Unit × (List (Int × Int × Int × Bool × Unit)) × Unit)
  let x9 := (x4.pv : Unit)
  let x10 := x1.1
  let x11 := (x10 == 0)
  let x12 := (bif decide (k_ < p.1.2.2.2.1) then (0 : Int) else p.2.2.2.2.1)
  let x13 := (x3 && true)
  let x14 := (bif decide (k_ < p.1.2.2.2.1) then x13 else x13)
  let x15 := (bif x11 then x14 else x14)
  let x16 := (L_plan_17_2 k (((), true, (), (), (IntKind.i64.wrap (k_ + 1)), ()), holidays, t, p, plan, ()))
  let x17 := (F_addMonths (p.1.2.2.2.2.1, k_, p.2.2.1, ()) ())
  let x18 := (x17.ret : Int × Bool × Unit)
  let x19 := (!x18.2.1)
  let x20 := (F_adjust (x18.1, (), p.1.2.2.2.2.2) (holidays, ()))
  let x21 := (x20.ret : Int × Bool × Unit)
  let x22 := x17.ok
  let x23 := (bif x19 then (x15 && x22) else (x15 && (x22 && x20.ok)))
  let x24 := [((bif x19 then (0 : Int) else x21.1), x10, x12, false, ())]
  let x25 := (L_plan_17_2 k (((), true, (), (), (IntKind.i64.wrap (k_ + 1)), ()), holidays, t, (p.1, (), p.2.2.1, p.2.2.2.1, (IntKind.i64.wrap (p.2.2.2.2.1 - x12)), ((), ()), ()), (plan ++ x24), ()))
  (bif (bif ok then (bif decide (p.2.2.2.2.1 > 0) then decide (k_ ≤ t.2.2.2.1) else false) else false) then (bif (!x1.2.1) then ⟨((x2 && x3) && x5), x6, x7, x8, x9⟩ else (bif (bif x11 then (x12 == 0) else false) then ⟨((x2 && x15) && x16.ok), x16.pan, x16.ret, x16.out, x16.pv⟩ else (bif (!(bif x19 then false else x21.2.1)) then ⟨((x2 && x23) && x5), x6, x7, x8, x9⟩ else ⟨((x2 && (x23 && (Nat.ble ((plan.length + x24.length) * 32) 140737488355328))) && x25.ok), x25.pan, x25.ret, x25.out, x25.pv⟩))) else (bif (!ok) then ⟨x2, false, ((), false, ()), ((), ([] : List (Int × Int × Int × Bool × Unit)), ()), ()⟩ else ⟨x2, false, ((), true, ()), ((), plan, ()), ()⟩)) := by kernel_rfl
noncomputable def tbl23 : List (Ent TT) := ⟨13, g_plan, F_plan⟩ :: tbl22
theorem tbl23_ok : TblOK prog globs tbl23 := tbl_cons (by kernel_rfl) F_plan_ok tbl22_ok
noncomputable def C_days : Cx TT := cxB tbl23 Go.Proofs.Tryz.f96.ntmps [(6, s_days_6)] [] [] []
noncomputable def k_days (a : g_days.args.ty) (h : tysO TT g_days.hp) : Nat := h.1.length + 2
noncomputable def F_days : g_days.args.ty → tysO TT g_days.hp → Res TT g_days := fun a h => bodyG C_days g_days Go.Proofs.Tryz.f96 [] (k_days a h) a h
theorem F_days_ok : FOK prog globs 96 g_days F_days :=
  bodyG_sound (cx := C_days) mix (cxB_ok tbl23_ok _ _ _ _ _) (f := 96) (fn := Go.Proofs.Tryz.f96) (by kernel_rfl) (by kernel_rfl) (by kernel_rfl) (by kernel_rfl) _
noncomputable def L_days_6 (k : Nat) (v : s_days_6.ty TT) : Res TT g_days := loopG C_days g_days Go.Proofs.Tryz.f96 [] k (todoF Go.Proofs.Tryz.f96 6) (SS.st s_days_6 0 v)
theorem F_days_eq (p : T23) (p_0 : List Int) : F_days (p, ()) (p_0, ()) =
  (bif decide (((p_0.length : Nat) : Int) > 64) then ⟨true, false, false, ((), ()), ()⟩ else (L_days_6 (k_days (p, ()) (p_0, ())) (((0 : Int), (), ((p_0.length : Nat) : Int), (0 : Int), ()), p_0, ()))) := by kernel_rfl
theorem L_days_6_eq (k : Nat) (last : Int) (t12 : Int) (t13 : Int) (p_0 : List Int) : L_days_6 (k + 1) ((last, (), t12, t13, ()), (p_0, ())) =
  let x0 := ((decide (0 ≤ t13) && decide (t13 < ((p_0.length : Nat) : Int))) && (Nat.blt t13.toNat p_0.length))
  let x1 := (bif decide ((p_0.getD t13.toNat (0 : Int)) ≤ last) then x0 else x0)
  let x2 := (L_days_6 k (((p_0.getD t13.toNat (0 : Int)), (), t12, (IntKind.i64.wrap (t13 + 1)), ()), p_0, ()))
  (bif decide (t13 < t12) then (bif (bif decide ((p_0.getD t13.toNat (0 : Int)) ≤ last) then true else decide ((p_0.getD t13.toNat (0 : Int)) > 3652059)) then ⟨x1, false, false, ((), ()), ()⟩ else ⟨(x1 && x2.ok), x2.pan, x2.ret, x2.out, x2.pv⟩) else ⟨true, false, true, ((), ()), ()⟩) := by kernel_rfl
noncomputable def tbl24 : List (Ent TT) := ⟨96, g_days, F_days⟩ :: tbl23
theorem tbl24_ok : TblOK prog globs tbl24 := tbl_cons (by kernel_rfl) F_days_ok tbl23_ok
noncomputable def C_check : Cx TT := cxB tbl24 Go.Proofs.Tryz.f27.ntmps [] [] [] [9]
noncomputable def k_check (a : g_check.args.ty) (h : tysO TT g_check.hp) : Nat := 0
noncomputable def F_check : g_check.args.ty → tysO TT g_check.hp → Res TT g_check := fun a h => bodyG C_check g_check Go.Proofs.Tryz.f27 [3] (k_check a h + 19) a h
theorem F_check_ok : FOK prog globs 27 g_check F_check :=
  bodyG_sound (cx := C_check) mix (cxB_ok tbl24_ok _ _ _ _ _) (f := 27) (fn := Go.Proofs.Tryz.f27) (by kernel_rfl) (by kernel_rfl) (by kernel_rfl) (by kernel_rfl) _
theorem F_check_eq (p : T23) (p_0 : List Int) : F_check (p, ()) (p_0, ()) =
  let x0 := ((bif decide (p.1 ≥ 1) then true else true) && (bif decide (p.2.1 ≥ 0) then true else true))
  let x1 := decide (p.2.2.1 ≥ (IntKind.i64.wrap (p.2.1 + 1)))
  let x2 := (x0 && (bif x1 then true else true))
  let x3 := (IntKind.i64.wrap ((IntKind.i64.wrap ((IntKind.i64.wrap ((0 : Int) + (1 : Int))) + 1)) + 1))
  let x4 := (x2 && (bif decide (p.2.2.2.1 ≥ 1) then true else true))
  let x5 := (IntKind.i64.wrap (x3 + 1))
  let x6 := (x4 && (bif decide (p.2.2.2.2.1 ≥ 0) then true else true))
  let x7 := (IntKind.i64.wrap (x5 + 1))
  let x8 := (x6 && (bif decide (p.2.2.2.2.2.1 ≥ 0) then true else true))
  let x9 := (IntKind.i64.wrap (x7 + 1))
  let x10 := decide (p.2.2.2.2.2.2.1 ≥ p.2.2.2.2.2.1)
  let x11 := (x8 && (bif x10 then true else true))
  let x12 := (IntKind.i64.wrap (x9 + 1))
  let x13 := decide (p.2.2.2.2.2.2.2.1 ≥ 0)
  let x14 := (x11 && (bif x13 then true else true))
  let x15 := (IntKind.i64.wrap (x12 + 1))
  let x16 := decide (p.2.2.2.2.2.2.2.2.1 ≥ 0)
  let x17 := (x14 && (bif x16 then true else true))
  let x18 := (IntKind.i64.wrap (x15 + 1))
  let x19 := decide (p.2.2.2.2.2.2.2.2.2.1 ≥ 0)
  let x20 := (x17 && (bif x19 then true else true))
  let x21 := (IntKind.i64.wrap (x18 + 1))
  let x22 := p.2.2.2.2.2.2.2.2.2.2.1
  let x23 := decide (x22 ≥ 1)
  let x24 := (x20 && (bif x23 then true else true))
  let x25 := (IntKind.i64.wrap (x21 + 1))
  let x26 := p.2.2.2.2.2.2.2.2.2.2.2
  let x27 := x26.1
  let x28 := decide (x27 ≥ 0)
  let x29 := (x24 && (bif x28 then true else true))
  let x30 := (IntKind.i64.wrap (x25 + 1))
  let x31 := x26.2
  let x32 := x31.1
  let x33 := decide (x32 ≥ 0)
  let x34 := (x29 && (bif x33 then true else true))
  let x35 := (IntKind.i64.wrap (x30 + 1))
  let x36 := x31.2
  let x37 := x36.1
  let x38 := decide (x37 ≥ 0)
  let x39 := (x34 && (bif x38 then true else true))
  let x40 := (IntKind.i64.wrap (x35 + 1))
  let x41 := x36.2
  let x42 := x41.1
  let x43 := decide (x42 ≥ 1)
  let x44 := (x39 && (bif x43 then true else true))
  let x45 := (IntKind.i64.wrap (x40 + 1))
  let x46 := x41.2
  let x47 := x46.1
  let x48 := decide (x47 ≥ x42)
  let x49 := (x44 && (bif x48 then true else true))
  let x50 := (IntKind.i64.wrap (x45 + 1))
  let x51 := x46.2.1
  let x52 := decide (x51 ≥ 0)
  let x53 := (x49 && (bif x52 then true else true))
  let x54 := (IntKind.i64.wrap (x50 + 1))
  let x55 := (x53 && (F_days (p, ()) (p_0, ())).ok)
  (bif (!(bif decide (p.1 ≥ 1) then decide (p.1 ≤ 3652059) else false)) then ⟨(bif decide (p.1 ≥ 1) then true else true), false, ((120 : Int), (IntKind.i64.wrap ((0 : Int) + (1 : Int))), ()), ((), ()), ()⟩ else (bif (!(bif decide (p.2.1 ≥ 0) then decide (p.2.1 ≤ 30) else false)) then ⟨x0, false, ((120 : Int), (IntKind.i64.wrap ((IntKind.i64.wrap ((0 : Int) + (1 : Int))) + 1)), ()), ((), ()), ()⟩ else (bif (!(bif x1 then decide (p.2.2.1 ≤ 365) else false)) then ⟨x2, false, ((120 : Int), x3, ()), ((), ()), ()⟩ else (bif (!(bif decide (p.2.2.2.1 ≥ 1) then decide (p.2.2.2.1 ≤ 365) else false)) then ⟨x4, false, ((120 : Int), x5, ()), ((), ()), ()⟩ else (bif (!(bif decide (p.2.2.2.2.1 ≥ 0) then decide (p.2.2.2.2.1 ≤ 10000) else false)) then ⟨x6, false, ((120 : Int), x7, ()), ((), ()), ()⟩ else (bif (!(bif decide (p.2.2.2.2.2.1 ≥ 0) then decide (p.2.2.2.2.2.1 ≤ 1000000000) else false)) then ⟨x8, false, ((120 : Int), x9, ()), ((), ()), ()⟩ else (bif (!(bif x10 then decide (p.2.2.2.2.2.2.1 ≤ 1000000000) else false)) then ⟨x11, false, ((120 : Int), x12, ()), ((), ()), ()⟩ else (bif (!(bif x13 then decide (p.2.2.2.2.2.2.2.1 ≤ 1000000000) else false)) then ⟨x14, false, ((120 : Int), x15, ()), ((), ()), ()⟩ else (bif (!(bif x16 then decide (p.2.2.2.2.2.2.2.2.1 ≤ 1000000000) else false)) then ⟨x17, false, ((120 : Int), x18, ()), ((), ()), ()⟩ else (bif (!(bif x19 then decide (p.2.2.2.2.2.2.2.2.2.1 ≤ 8) else false)) then ⟨x20, false, ((120 : Int), x21, ()), ((), ()), ()⟩ else (bif (!(bif x23 then decide (x22 ≤ 60) else false)) then ⟨x24, false, ((120 : Int), x25, ()), ((), ()), ()⟩ else (bif (!(bif x28 then decide (x27 ≤ 4) else false)) then ⟨x29, false, ((120 : Int), x30, ()), ((), ()), ()⟩ else (bif (!(bif x33 then decide (x32 ≤ 5) else false)) then ⟨x34, false, ((120 : Int), x35, ()), ((), ()), ()⟩ else (bif (!(bif x38 then decide (x37 ≤ 3) else false)) then ⟨x39, false, ((120 : Int), x40, ()), ((), ()), ()⟩ else (bif (!(bif x43 then decide (x42 ≤ 64) else false)) then ⟨x44, false, ((120 : Int), x45, ()), ((), ()), ()⟩ else (bif (!(bif x48 then decide (x47 ≤ 64) else false)) then ⟨x49, false, ((120 : Int), x50, ()), ((), ()), ()⟩ else (bif (!(bif x52 then decide (x51 ≤ 1000) else false)) then ⟨x53, false, ((120 : Int), x54, ()), ((), ()), ()⟩ else (bif (!((F_days (p, ()) (p_0, ())).ret : Bool)) then ⟨x55, false, ((120 : Int), (IntKind.i64.wrap (x54 + 1)), ()), ((), ()), ()⟩ else ⟨x55, false, ((0 : Int), (0 : Int), ()), ((), ()), ()⟩)))))))))))))))))) := by kernel_rfl
noncomputable def tbl25 : List (Ent TT) := ⟨27, g_check, F_check⟩ :: tbl24
theorem tbl25_ok : TblOK prog globs tbl25 := tbl_cons (by kernel_rfl) F_check_ok tbl24_ok
end Go.Proofs.YtklpneeakhbahaaGreatDoor.Fs
end
section
set_option linter.unusedVariables false
set_option maxRecDepth 100000
set_option linter.unusedSimpArgs false
namespace Go.Proofs.YtklpneeakhbahaaGreatDoor.Fs
open Go Go.Proofs.YtklpneeakhbahaaGreatDoor.Ls
noncomputable def C_post : Cx TT := cxB tbl25 Go.Proofs.Tryz.f38.ntmps [(9, s_post_9)] [] [] [22, 66, 89]
noncomputable def k_post (a : g_post.args.ty) (h : tysO TT g_post.hp) : Nat := h.1.length + 2
noncomputable def F_post : g_post.args.ty → tysO TT g_post.hp → Res TT g_post := fun a h => bodyG C_post g_post Go.Proofs.Tryz.f38 [4, 19, 27] (k_post a h + 40) a h
theorem F_post_ok : FOK prog globs 38 g_post F_post :=
  bodyG_sound (cx := C_post) mix (cxB_ok tbl25_ok _ _ _ _ _) (f := 38) (fn := Go.Proofs.Tryz.f38) (by kernel_rfl) (by kernel_rfl) (by kernel_rfl) (by kernel_rfl) _
theorem F_post_one (P : Int) : F_post ((((0 : Int), (0 : Int), (0 : Int), (0 : Int), (0 : Int), (0 : Int), (0 : Int), (0 : Int), (0 : Int), (0 : Int), (0 : Int), (0 : Int), ()), ()), (), ()) ([((1 : Int), (6 : Int), P, ())], ()) =
  let x0 := [(0 : Int), (0 : Int), (0 : Int), (0 : Int), (0 : Int), (0 : Int), (0 : Int), (0 : Int), (0 : Int), (0 : Int), (0 : Int), (0 : Int)]
  let x1 := x0.length
  let x2 := (Nat.beq x1 (12 / 1))
  let x3 := [((0 : Int), (0 : Int), ()), ((0 : Int), (0 : Int), ()), ((0 : Int), (0 : Int), ()), ((0 : Int), (0 : Int), ()), ((0 : Int), (0 : Int), ()), ((0 : Int), (0 : Int), ()), ((0 : Int), (0 : Int), ()), ((0 : Int), (0 : Int), ()), ((0 : Int), (0 : Int), ()), ((0 : Int), (0 : Int), ()), ((0 : Int), (0 : Int), ()), ((0 : Int), (0 : Int), ())]
  let x4 := (decide (0 ≤ (IntKind.i64.wrap ((0 : Int) + (1 : Int)))) && decide ((IntKind.i64.wrap ((0 : Int) + (1 : Int))) < ((12 : Nat) : Int)))
  let x5 := (x0.getD 0 (0 : Int))
  let x6 := (((0 : Int).toNat + (IntKind.u64.wrap x5).toNat) + (0 : Int).toNat)
  let x7 := (((x6 % 18446744073709551616) : Nat) : Int)
  let x8 := (x3.set ((0 : Int).toNat) ((IntKind.i64.wrap ((IntKind.i64.wrap (0 + (x5.fdiv (2 ^ (min ((63 : Int).toNat) 64))))) + (IntKind.i64.wrap (((x6 / 18446744073709551616) : Nat) : Int)))), x7, ()))
  let x9 := (decide (0 ≤ (IntKind.i64.wrap ((IntKind.i64.wrap ((0 : Int) + (1 : Int))) + 1))) && decide ((IntKind.i64.wrap ((IntKind.i64.wrap ((0 : Int) + (1 : Int))) + 1)) < ((12 : Nat) : Int)))
  let x10 := (x0.getD 1 (0 : Int))
  let x11 := (((0 : Int).toNat + (IntKind.u64.wrap x10).toNat) + (0 : Int).toNat)
  let x12 := (((x11 % 18446744073709551616) : Nat) : Int)
  let x13 := (x8.set ((IntKind.i64.wrap ((0 : Int) + (1 : Int))).toNat) ((IntKind.i64.wrap ((IntKind.i64.wrap (0 + (x10.fdiv (2 ^ (min ((63 : Int).toNat) 64))))) + (IntKind.i64.wrap (((x11 / 18446744073709551616) : Nat) : Int)))), x12, ()))
  let x14 := (IntKind.i64.wrap ((IntKind.i64.wrap ((IntKind.i64.wrap ((0 : Int) + (1 : Int))) + 1)) + 1))
  let x15 := (decide (0 ≤ x14) && decide (x14 < ((12 : Nat) : Int)))
  let x16 := x14.toNat
  let x17 := (x0.getD 2 (0 : Int))
  let x18 := (((0 : Int).toNat + (IntKind.u64.wrap x17).toNat) + (0 : Int).toNat)
  let x19 := (((x18 % 18446744073709551616) : Nat) : Int)
  let x20 := (x13.set ((IntKind.i64.wrap ((IntKind.i64.wrap ((0 : Int) + (1 : Int))) + 1)).toNat) ((IntKind.i64.wrap ((IntKind.i64.wrap (0 + (x17.fdiv (2 ^ (min ((63 : Int).toNat) 64))))) + (IntKind.i64.wrap (((x18 / 18446744073709551616) : Nat) : Int)))), x19, ()))
  let x21 := (IntKind.i64.wrap (x14 + 1))
  let x22 := (decide (0 ≤ x21) && decide (x21 < ((12 : Nat) : Int)))
  let x23 := x21.toNat
  let x24 := (x0.getD 3 (0 : Int))
  let x25 := (((0 : Int).toNat + (IntKind.u64.wrap x24).toNat) + (0 : Int).toNat)
  let x26 := (((x25 % 18446744073709551616) : Nat) : Int)
  let x27 := (x20.set x16 ((IntKind.i64.wrap ((IntKind.i64.wrap (0 + (x24.fdiv (2 ^ (min ((63 : Int).toNat) 64))))) + (IntKind.i64.wrap (((x25 / 18446744073709551616) : Nat) : Int)))), x26, ()))
  let x28 := (IntKind.i64.wrap (x21 + 1))
  let x29 := (decide (0 ≤ x28) && decide (x28 < ((12 : Nat) : Int)))
  let x30 := x28.toNat
  let x31 := (x0.getD 4 (0 : Int))
  let x32 := (((0 : Int).toNat + (IntKind.u64.wrap x31).toNat) + (0 : Int).toNat)
  let x33 := (((x32 % 18446744073709551616) : Nat) : Int)
  let x34 := (x27.set x23 ((IntKind.i64.wrap ((IntKind.i64.wrap (0 + (x31.fdiv (2 ^ (min ((63 : Int).toNat) 64))))) + (IntKind.i64.wrap (((x32 / 18446744073709551616) : Nat) : Int)))), x33, ()))
  let x35 := (IntKind.i64.wrap (x28 + 1))
  let x36 := (decide (0 ≤ x35) && decide (x35 < ((12 : Nat) : Int)))
  let x37 := x35.toNat
  let x38 := (x0.getD 5 (0 : Int))
  let x39 := (((0 : Int).toNat + (IntKind.u64.wrap x38).toNat) + (0 : Int).toNat)
  let x40 := (((x39 % 18446744073709551616) : Nat) : Int)
  let x41 := (x34.set x30 ((IntKind.i64.wrap ((IntKind.i64.wrap (0 + (x38.fdiv (2 ^ (min ((63 : Int).toNat) 64))))) + (IntKind.i64.wrap (((x39 / 18446744073709551616) : Nat) : Int)))), x40, ()))
  let x42 := (IntKind.i64.wrap (x35 + 1))
  let x43 := (decide (0 ≤ x42) && decide (x42 < ((12 : Nat) : Int)))
  let x44 := x42.toNat
  let x45 := (x0.getD 6 (0 : Int))
  let x46 := (((0 : Int).toNat + (IntKind.u64.wrap x45).toNat) + (0 : Int).toNat)
  let x47 := (((x46 % 18446744073709551616) : Nat) : Int)
  let x48 := (x41.set x37 ((IntKind.i64.wrap ((IntKind.i64.wrap (0 + (x45.fdiv (2 ^ (min ((63 : Int).toNat) 64))))) + (IntKind.i64.wrap (((x46 / 18446744073709551616) : Nat) : Int)))), x47, ()))
  let x49 := (IntKind.i64.wrap (x42 + 1))
  let x50 := (decide (0 ≤ x49) && decide (x49 < ((12 : Nat) : Int)))
  let x51 := x49.toNat
  let x52 := (x0.getD 7 (0 : Int))
  let x53 := (((0 : Int).toNat + (IntKind.u64.wrap x52).toNat) + (0 : Int).toNat)
  let x54 := (((x53 % 18446744073709551616) : Nat) : Int)
  let x55 := (x48.set x44 ((IntKind.i64.wrap ((IntKind.i64.wrap (0 + (x52.fdiv (2 ^ (min ((63 : Int).toNat) 64))))) + (IntKind.i64.wrap (((x53 / 18446744073709551616) : Nat) : Int)))), x54, ()))
  let x56 := (IntKind.i64.wrap (x49 + 1))
  let x57 := (decide (0 ≤ x56) && decide (x56 < ((12 : Nat) : Int)))
  let x58 := x56.toNat
  let x59 := (x0.getD 8 (0 : Int))
  let x60 := (((0 : Int).toNat + (IntKind.u64.wrap x59).toNat) + (0 : Int).toNat)
  let x61 := (((x60 % 18446744073709551616) : Nat) : Int)
  let x62 := (x55.set x51 ((IntKind.i64.wrap ((IntKind.i64.wrap (0 + (x59.fdiv (2 ^ (min ((63 : Int).toNat) 64))))) + (IntKind.i64.wrap (((x60 / 18446744073709551616) : Nat) : Int)))), x61, ()))
  let x63 := (IntKind.i64.wrap (x56 + 1))
  let x64 := (decide (0 ≤ x63) && decide (x63 < ((12 : Nat) : Int)))
  let x65 := x63.toNat
  let x66 := (x0.getD 9 (0 : Int))
  let x67 := (((0 : Int).toNat + (IntKind.u64.wrap x66).toNat) + (0 : Int).toNat)
  let x68 := (((x67 % 18446744073709551616) : Nat) : Int)
  let x69 := (x62.set x58 ((IntKind.i64.wrap ((IntKind.i64.wrap (0 + (x66.fdiv (2 ^ (min ((63 : Int).toNat) 64))))) + (IntKind.i64.wrap (((x67 / 18446744073709551616) : Nat) : Int)))), x68, ()))
  let x70 := (IntKind.i64.wrap (x63 + 1))
  let x71 := (decide (0 ≤ x70) && decide (x70 < ((12 : Nat) : Int)))
  let x72 := x70.toNat
  let x73 := (x0.getD 10 (0 : Int))
  let x74 := (((0 : Int).toNat + (IntKind.u64.wrap x73).toNat) + (0 : Int).toNat)
  let x75 := (((x74 % 18446744073709551616) : Nat) : Int)
  let x76 := (x69.set x65 ((IntKind.i64.wrap ((IntKind.i64.wrap (0 + (x73.fdiv (2 ^ (min ((63 : Int).toNat) 64))))) + (IntKind.i64.wrap (((x74 / 18446744073709551616) : Nat) : Int)))), x75, ()))
  let x77 := (((decide ((0 : Int) ≤ (0 : Int)) && decide (0 < ((([((1 : Int), (6 : Int), P, ())]).length : Nat) : Int))) && (Nat.blt ((0 : Int).toNat) (([((1 : Int), (6 : Int), P, ())]).length))) && true)
  let x78 := (bif decide (P < 1) then x77 else x77)
  let x79 := (x0.getD 11 (0 : Int))
  let x80 := [x5, x10, x17, x24, x31, x38, x45, x52, x59, x66, x73, x79]
  let x81 := x80.length
  let x82 := (Nat.beq x1 x81)
  let x83 := (Nat.beq x81 (12 / 1))
  let x84 := (([((1 : Int), (6 : Int), P, ())]).getD ((0 : Int).toNat) ((0 : Int), (0 : Int), (0 : Int), ())).1
  let x85 := (decide (0 ≤ x84) && decide (x84 < ((12 : Nat) : Int)))
  let x86 := x84.toNat
  let x87 := (((0 : Int).toNat + (IntKind.u64.wrap x79).toNat) + (0 : Int).toNat)
  let x88 := (((x87 % 18446744073709551616) : Nat) : Int)
  let x89 := (x76.set x72 ((IntKind.i64.wrap ((IntKind.i64.wrap (0 + (x79.fdiv (2 ^ (min ((63 : Int).toNat) 64))))) + (IntKind.i64.wrap (((x87 / 18446744073709551616) : Nat) : Int)))), x88, ()))
  let x90 := (Nat.blt x86 x89.length)
  let x91 := ((x12.toNat + (IntKind.u64.wrap P).toNat) + (0 : Int).toNat)
  let x92 := (((x91 % 18446744073709551616) : Nat) : Int)
  let x93 := (x89.set x86 ((IntKind.i64.wrap ((IntKind.i64.wrap ((x89.getD x86 ((0 : Int), (0 : Int), ())).1 + (P.fdiv (2 ^ (min ((63 : Int).toNat) 64))))) + (IntKind.i64.wrap (((x91 / 18446744073709551616) : Nat) : Int)))), x92, ()))
  let x94 := (Nat.blt ((6 : Int).toNat) x93.length)
  let x95 := x47.toNat
  let x96 := ((((((x95 + 18446744073709551616) - (IntKind.u64.wrap P).toNat) - (0 : Int).toNat) % 18446744073709551616) : Nat) : Int)
  let x97 := (x93.set ((6 : Int).toNat) ((IntKind.i64.wrap ((IntKind.i64.wrap ((x93.getD ((6 : Int).toNat) ((0 : Int), (0 : Int), ())).1 - (P.fdiv (2 ^ (min ((63 : Int).toNat) 64))))) - (IntKind.i64.wrap (((bif (Nat.blt x95 ((IntKind.u64.wrap P).toNat + (0 : Int).toNat)) then 1 else 0) : Nat) : Int)))), x96, ()))
  let x98 := (IntKind.i64.wrap x92)
  let x99 := (!((x97.getD 1 ((0 : Int), (0 : Int), ())).1 == (x98.fdiv (2 ^ (min ((63 : Int).toNat) 64)))))
  let x100 := (((((Nat.beq x97.length (24 / (1 + (1 + 0)))) && true) && (decide ((0 : Int) ≤ (0 : Int)) && decide (0 < ((12 : Nat) : Int)))) && (Nat.blt ((0 : Int).toNat) x1)) && true)
  let x101 := (bif x99 then x100 else x100)
  let x102 := (IntKind.i64.wrap x96)
  let x103 := (!((x97.getD 6 ((0 : Int), (0 : Int), ())).1 == (x102.fdiv (2 ^ (min ((63 : Int).toNat) 64)))))
  let x104 := (x0.set ((0 : Int).toNat) (IntKind.i64.wrap x7))
  let x105 := (x104.set ((IntKind.i64.wrap ((0 : Int) + (1 : Int))).toNat) x98)
  let x106 := (x105.set ((IntKind.i64.wrap ((IntKind.i64.wrap ((0 : Int) + (1 : Int))) + 1)).toNat) (IntKind.i64.wrap x19))
  let x107 := (x106.set x16 (IntKind.i64.wrap x26))
  let x108 := (x107.set x23 (IntKind.i64.wrap x33))
  let x109 := (((((((((((((((x101 && x4) && (Nat.blt ((IntKind.i64.wrap ((0 : Int) + (1 : Int))).toNat) x104.length)) && true) && x9) && (Nat.blt ((IntKind.i64.wrap ((IntKind.i64.wrap ((0 : Int) + (1 : Int))) + 1)).toNat) x105.length)) && true) && x15) && (Nat.blt x16 x106.length)) && true) && x22) && (Nat.blt x23 x107.length)) && true) && x29) && (Nat.blt x30 x108.length)) && true)
  let x110 := (bif x103 then x109 else x109)
  let x111 := (x108.set x30 (IntKind.i64.wrap x40))
  let x112 := (x111.set x37 x102)
  let x113 := (x112.set x44 (IntKind.i64.wrap x54))
  let x114 := (x113.set x51 (IntKind.i64.wrap x61))
  let x115 := (x114.set x58 (IntKind.i64.wrap x68))
  let x116 := (x115.set x65 (IntKind.i64.wrap x75))
  let x117 := (x116.set x72 (IntKind.i64.wrap x88))
  let x118 := (x117.getD 1 (0 : Int))
  let x119 := decide (x118 < 0)
  let x120 := decide (x118 > 0)
  let x121 := [(1 : Int), (1 : Int), (1 : Int), (1 : Int), (-1 : Int), (-1 : Int), (-1 : Int), (-1 : Int), (-1 : Int), (1 : Int), (-1 : Int), (1 : Int)]
  let x122 := (Nat.beq x117.length (12 / 1))
  let x123 := ((((((((((((((((((x110 && x36) && (Nat.blt x37 x111.length)) && true) && x43) && (Nat.blt x44 x112.length)) && true) && x50) && (Nat.blt x51 x113.length)) && true) && x57) && (Nat.blt x58 x114.length)) && true) && x64) && (Nat.blt x65 x115.length)) && true) && x71) && (Nat.blt x72 x116.length)) && x122)
  let x124 := x121.length
  let x125 := ((x123 && x4) && (Nat.blt ((IntKind.i64.wrap ((0 : Int) + (1 : Int))).toNat) x124))
  let x126 := (bif x119 then x125 else (bif x120 then x125 else x123))
  let x127 := (x117.getD 6 (0 : Int))
  let x128 := decide (x127 < 0)
  let x129 := decide (x127 > 0)
  let x130 := (bif x129 then decide ((x121.getD x37 (0 : Int)) < 0) else false)
  let x131 := (Nat.blt x37 x124)
  let x132 := ((x126 && x36) && x131)
  let x133 := (bif x128 then (bif x129 then ((x132 && x36) && x131) else x132) else (bif x129 then x132 else x126))
  let x134 := [(x117.getD 0 (0 : Int)), x118, (x117.getD 2 (0 : Int)), (x117.getD 3 (0 : Int)), (x117.getD 4 (0 : Int)), (x117.getD 5 (0 : Int)), x127, (x117.getD 7 (0 : Int)), (x117.getD 8 (0 : Int)), (x117.getD 9 (0 : Int)), (x117.getD 10 (0 : Int)), (x117.getD 11 (0 : Int))]
  let x135 := x134.length
  let x136 := ((bif (bif x99 then true else (x98 == (-9223372036854775808))) then ⟨(((x101 && x2) && x82) && x83), false, ((((x80.getD 0 (0 : Int)), (x80.getD 1 (0 : Int)), (x80.getD 2 (0 : Int)), (x80.getD 3 (0 : Int)), (x80.getD 4 (0 : Int)), (x80.getD 5 (0 : Int)), (x80.getD 6 (0 : Int)), (x80.getD 7 (0 : Int)), (x80.getD 8 (0 : Int)), (x80.getD 9 (0 : Int)), (x80.getD 10 (0 : Int)), (x80.getD 11 (0 : Int)), ()), ()), (3 : Int), ()), ((), ()), ()⟩ else (bif (bif x103 then true else (x102 == (-9223372036854775808))) then ⟨(((x110 && x2) && x82) && x83), false, ((((x80.getD 0 (0 : Int)), (x80.getD 1 (0 : Int)), (x80.getD 2 (0 : Int)), (x80.getD 3 (0 : Int)), (x80.getD 4 (0 : Int)), (x80.getD 5 (0 : Int)), (x80.getD 6 (0 : Int)), (x80.getD 7 (0 : Int)), (x80.getD 8 (0 : Int)), (x80.getD 9 (0 : Int)), (x80.getD 10 (0 : Int)), (x80.getD 11 (0 : Int)), ()), ()), (3 : Int), ()), ((), ()), ()⟩ else (bif (bif x119 then true else (bif x120 then decide ((x121.getD ((IntKind.i64.wrap ((0 : Int) + (1 : Int))).toNat) (0 : Int)) < 0) else false)) then ⟨(((x126 && x2) && x82) && x83), false, ((((x80.getD 0 (0 : Int)), (x80.getD 1 (0 : Int)), (x80.getD 2 (0 : Int)), (x80.getD 3 (0 : Int)), (x80.getD 4 (0 : Int)), (x80.getD 5 (0 : Int)), (x80.getD 6 (0 : Int)), (x80.getD 7 (0 : Int)), (x80.getD 8 (0 : Int)), (x80.getD 9 (0 : Int)), (x80.getD 10 (0 : Int)), (x80.getD 11 (0 : Int)), ()), ()), (81 : Int), ()), ((), ()), ()⟩ else (bif (bif x128 then x130 else x130) then ⟨(((x133 && x2) && x82) && x83), false, ((((x80.getD 0 (0 : Int)), (x80.getD 1 (0 : Int)), (x80.getD 2 (0 : Int)), (x80.getD 3 (0 : Int)), (x80.getD 4 (0 : Int)), (x80.getD 5 (0 : Int)), (x80.getD 6 (0 : Int)), (x80.getD 7 (0 : Int)), (x80.getD 8 (0 : Int)), (x80.getD 9 (0 : Int)), (x80.getD 10 (0 : Int)), (x80.getD 11 (0 : Int)), ()), ()), (81 : Int), ()), ((), ()), ()⟩ else ⟨(((x133 && x122) && (Nat.beq x1 x135)) && (Nat.beq x135 (12 / 1))), false, ((((x134.getD 0 (0 : Int)), (x134.getD 1 (0 : Int)), (x134.getD 2 (0 : Int)), (x134.getD 3 (0 : Int)), (x134.getD 4 (0 : Int)), (x134.getD 5 (0 : Int)), (x134.getD 6 (0 : Int)), (x134.getD 7 (0 : Int)), (x134.getD 8 (0 : Int)), (x134.getD 9 (0 : Int)), (x134.getD 10 (0 : Int)), (x134.getD 11 (0 : Int)), ()), ()), (0 : Int), ()), ((), ()), ()⟩)))) : Res TT g_post)
  let x137 := ((bif ((bif decide (P < 1) then (4 : Int) else (0 : Int)) != 0) then ⟨(((x78 && x2) && x82) && x83), false, ((((x80.getD 0 (0 : Int)), (x80.getD 1 (0 : Int)), (x80.getD 2 (0 : Int)), (x80.getD 3 (0 : Int)), (x80.getD 4 (0 : Int)), (x80.getD 5 (0 : Int)), (x80.getD 6 (0 : Int)), (x80.getD 7 (0 : Int)), (x80.getD 8 (0 : Int)), (x80.getD 9 (0 : Int)), (x80.getD 10 (0 : Int)), (x80.getD 11 (0 : Int)), ()), ()), (bif decide (P < 1) then (4 : Int) else (0 : Int)), ()), ((), ()), ()⟩ else ⟨(((((((((((x78 && x85) && x90) && (Nat.ble ((0 : Int).toNat) ((instOfNatNat 1).ofNat))) && x85) && x90) && (decide ((0 : Int) ≤ (6 : Int)) && decide (6 < ((12 : Nat) : Int)))) && x94) && (Nat.ble ((0 : Int).toNat) ((instOfNatNat 1).ofNat))) && (decide ((0 : Int) ≤ (6 : Int)) && decide (6 < ((12 : Nat) : Int)))) && x94) && x136.ok), x136.pan, x136.ret, x136.out, x136.pv⟩) : Res TT g_post)
  ⟨(((((((((((((((((((((((((((((((((((((x2 && (Nat.ble ((0 : Int).toNat) ((instOfNatNat 1).ofNat))) && (decide ((0 : Int) ≤ (0 : Int)) && decide (0 < ((12 : Nat) : Int)))) && (Nat.blt ((0 : Int).toNat) x3.length)) && (Nat.ble ((0 : Int).toNat) ((instOfNatNat 1).ofNat))) && x4) && (Nat.blt ((IntKind.i64.wrap ((0 : Int) + (1 : Int))).toNat) x8.length)) && (Nat.ble ((0 : Int).toNat) ((instOfNatNat 1).ofNat))) && x9) && (Nat.blt ((IntKind.i64.wrap ((IntKind.i64.wrap ((0 : Int) + (1 : Int))) + 1)).toNat) x13.length)) && (Nat.ble ((0 : Int).toNat) ((instOfNatNat 1).ofNat))) && x15) && (Nat.blt x16 x20.length)) && (Nat.ble ((0 : Int).toNat) ((instOfNatNat 1).ofNat))) && x22) && (Nat.blt x23 x27.length)) && (Nat.ble ((0 : Int).toNat) ((instOfNatNat 1).ofNat))) && x29) && (Nat.blt x30 x34.length)) && (Nat.ble ((0 : Int).toNat) ((instOfNatNat 1).ofNat))) && x36) && (Nat.blt x37 x41.length)) && (Nat.ble ((0 : Int).toNat) ((instOfNatNat 1).ofNat))) && x43) && (Nat.blt x44 x48.length)) && (Nat.ble ((0 : Int).toNat) ((instOfNatNat 1).ofNat))) && x50) && (Nat.blt x51 x55.length)) && (Nat.ble ((0 : Int).toNat) ((instOfNatNat 1).ofNat))) && x57) && (Nat.blt x58 x62.length)) && (Nat.ble ((0 : Int).toNat) ((instOfNatNat 1).ofNat))) && x64) && (Nat.blt x65 x69.length)) && (Nat.ble ((0 : Int).toNat) ((instOfNatNat 1).ofNat))) && x71) && (Nat.blt x72 x76.length)) && x137.ok), x137.pan, x137.ret, x137.out, x137.pv⟩ := by kernel_rfl
noncomputable def tbl26 : List (Ent TT) := ⟨38, g_post, F_post⟩ :: tbl25
theorem tbl26_ok : TblOK prog globs tbl26 := tbl_cons (by kernel_rfl) F_post_ok tbl25_ok
end Go.Proofs.YtklpneeakhbahaaGreatDoor.Fs
end
section
set_option linter.unusedVariables false
set_option maxRecDepth 100000
set_option linter.unusedSimpArgs false
namespace Go.Proofs.YtklpneeakhbahaaGreatDoor.Fs
open Go Go.Proofs.YtklpneeakhbahaaGreatDoor.Ls
noncomputable def C_may : Cx TT := cxB tbl26 Go.Proofs.Tryz.f12.ntmps [] [] [] []
noncomputable def k_may (a : g_may.args.ty) (h : tysO TT g_may.hp) : Nat := 0
noncomputable def F_may : g_may.args.ty → tysO TT g_may.hp → Res TT g_may := fun a h => bodyG C_may g_may Go.Proofs.Tryz.f12 [] (k_may a h) a h
theorem F_may_ok : FOK prog globs 12 g_may F_may :=
  bodyG_sound (cx := C_may) mix (cxB_ok tbl26_ok _ _ _ _ _) (f := 12) (fn := Go.Proofs.Tryz.f12) (by kernel_rfl) (by kernel_rfl) (by kernel_rfl) (by kernel_rfl) _
theorem F_may_eq (t : T25) : F_may (t, ()) () =
  let x0 := (bif decide (t.1 ≥ 0) then (bif decide (t.1 ≤ 2) then (bif decide (t.2.2.2.2.2.1 ≥ 0) then decide (t.2.2.2.2.2.1 ≤ 3) else false) else false) else false)
  let x1 := (bif decide (t.2.1 ≥ 1) then (bif decide (t.2.1 ≤ 10000000000000) then (bif decide (t.2.2.1 ≥ 0) then decide (t.2.2.1 ≤ 100000) else false) else false) else false)
  let x2 := (bif decide (t.1 ≥ 0) then (bif decide (t.1 ≤ 2) then (bif decide (t.2.2.2.2.2.1 ≥ 0) then true else true) else true) else true)
  let x3 := (bif decide (t.2.1 ≥ 1) then (bif decide (t.2.1 ≤ 10000000000000) then (bif decide (t.2.2.1 ≥ 0) then x2 else x2) else x2) else x2)
  ⟨(bif x0 then (bif x1 then (bif decide (t.2.2.2.1 ≥ 1) then (bif decide (t.2.2.2.1 ≤ 120) then (bif decide (t.2.2.2.2.1 ≥ 1) then x3 else x3) else x3) else x3) else x3) else x3), false, (bif x0 then (bif x1 then (bif decide (t.2.2.2.1 ≥ 1) then (bif decide (t.2.2.2.1 ≤ 120) then (bif decide (t.2.2.2.2.1 ≥ 1) then decide (t.2.2.2.2.1 ≤ 3652059) else false) else false) else false) else false) else false), (), ()⟩ := by kernel_rfl
noncomputable def tbl27 : List (Ent TT) := ⟨12, g_may, F_may⟩ :: tbl26
theorem tbl27_ok : TblOK prog globs tbl27 := tbl_cons (by kernel_rfl) F_may_ok tbl26_ok
noncomputable def C_open : Cx TT := cxB tbl27 Go.Proofs.Tryz.f5.ntmps [] [] [] []
noncomputable def k_open (a : g_open.args.ty) (h : tysO TT g_open.hp) : Nat := 0
noncomputable def F_open : g_open.args.ty → tysO TT g_open.hp → Res TT g_open := fun a h => bodyG C_open g_open Go.Proofs.Tryz.f5 [] (k_open a h) a h
theorem F_open_ok : FOK prog globs 5 g_open F_open :=
  bodyG_sound (cx := C_open) mix (cxB_ok tbl27_ok _ _ _ _ _) (f := 5) (fn := Go.Proofs.Tryz.f5) (by kernel_rfl) (by kernel_rfl) (by kernel_rfl) (by kernel_rfl) _
theorem F_open_eq (p : T23) (id : Int) (t : T25) (p_0 : List Int) : F_open (p, id, t, ()) (p_0, ()) =
  let x0 := (((F_check (p, ()) (p_0, ())).ok && true) && true)
  let x1 := (⟨((x0 && true) && true), false, (((0 : Int), ((0 : Int), (0 : Int), (0 : Int), (0 : Int), (0 : Int), (0 : Int), ()), (), (((0 : Int), (0 : Int), (0 : Int), (0 : Int), (0 : Int), (0 : Int), (0 : Int), (0 : Int), (0 : Int), (0 : Int), (0 : Int), (0 : Int), ()), ()), ((0 : Int), false, (0 : Int), (0 : Int), (0 : Int), (0 : Int), (0 : Int), (0 : Int), (0 : Int), (0 : Int), (0 : Int), (0 : Int), (0 : Int), (0 : Int), (0 : Int), ()), (0 : Int), (0 : Int), (0 : Int), ((0 : Int), (0 : Int), (0 : Int), (0 : Int), (0 : Int), ()), false, (0 : Int), (0 : Int), ()), ((0 : Int), (0 : Int), (0 : Int), (0 : Int), (0 : Int), ()), (), (2 : Int), ()), ((), ([] : List (Int × Int × Int × Bool × Unit)), ([] : List (Int × Int × Int × Int × Int × Bool × Unit)), ()), ()⟩ : Res TT g_open)
  let x2 := ((((F_may (t, ()) ()).ok && true) && (F_plan (t, (), ()) (p_0, ())).ok) && true)
  let x3 := (F_post ((((0 : Int), (0 : Int), (0 : Int), (0 : Int), (0 : Int), (0 : Int), (0 : Int), (0 : Int), (0 : Int), (0 : Int), (0 : Int), (0 : Int), ()), ()), (), ()) ([((1 : Int), (6 : Int), t.2.1, ())], ()))
  let x4 := (x3.ret : ((Int × Int × Int × Int × Int × Int × Int × Int × Int × Int × Int × Int × Unit) × Unit) × Int × Unit)
  let x5 := x4.2
  let x6 := (x2 && true)
  let x7 := ([((1 : Int), (6 : Int), t.2.1, ())]).length
  let x8 := x4.1.1
  let x9 := x8.2
  let x10 := x9.2
  let x11 := x10.2
  let x12 := x11.2
  let x13 := x12.2
  let x14 := x13.2
  let x15 := x14.2
  let x16 := x15.2
  let x17 := x16.2
  let x18 := x17.2
  let x19 := [x8.1, x9.1, x10.1, x11.1, x12.1, x13.1, x14.1, x15.1, x16.1, x17.1, x18.1, x18.2.1]
  let x20 := x19.length
  let x21 := ((((((decide ((0 : Int) ≤ (0 : Int)) && decide (0 < ((x7 : Nat) : Int))) && (Nat.blt ((0 : Int).toNat) x7)) && true) && x3.ok) && (Nat.beq (([(0 : Int), (0 : Int), (0 : Int), (0 : Int), (0 : Int), (0 : Int), (0 : Int), (0 : Int), (0 : Int), (0 : Int), (0 : Int), (0 : Int)]).length) x20)) && true)
  (bif (((F_check (p, ()) (p_0, ())).ret : Int × Int × Unit).1 != 0) then ⟨x0, false, (((0 : Int), ((0 : Int), (0 : Int), (0 : Int), (0 : Int), (0 : Int), (0 : Int), ()), (), (((0 : Int), (0 : Int), (0 : Int), (0 : Int), (0 : Int), (0 : Int), (0 : Int), (0 : Int), (0 : Int), (0 : Int), (0 : Int), (0 : Int), ()), ()), ((0 : Int), false, (0 : Int), (0 : Int), (0 : Int), (0 : Int), (0 : Int), (0 : Int), (0 : Int), (0 : Int), (0 : Int), (0 : Int), (0 : Int), (0 : Int), (0 : Int), ()), (0 : Int), (0 : Int), (0 : Int), ((0 : Int), (0 : Int), (0 : Int), (0 : Int), (0 : Int), ()), false, (0 : Int), (0 : Int), ()), ((0 : Int), (0 : Int), (0 : Int), (0 : Int), (0 : Int), ()), (), ((F_check (p, ()) (p_0, ())).ret : Int × Int × Unit).1, ()), ((), ([] : List (Int × Int × Int × Bool × Unit)), ([] : List (Int × Int × Int × Int × Int × Bool × Unit)), ()), ()⟩ else (bif decide (id ≥ 1) then (bif (!decide (id ≤ 999999)) then x1 else (bif (!((F_may (t, ()) ()).ret : Bool)) then ⟨((x0 && ((F_may (t, ()) ()).ok && true)) && true), false, (((0 : Int), ((0 : Int), (0 : Int), (0 : Int), (0 : Int), (0 : Int), (0 : Int), ()), (), (((0 : Int), (0 : Int), (0 : Int), (0 : Int), (0 : Int), (0 : Int), (0 : Int), (0 : Int), (0 : Int), (0 : Int), (0 : Int), (0 : Int), ()), ()), ((0 : Int), false, (0 : Int), (0 : Int), (0 : Int), (0 : Int), (0 : Int), (0 : Int), (0 : Int), (0 : Int), (0 : Int), (0 : Int), (0 : Int), (0 : Int), (0 : Int), ()), (0 : Int), (0 : Int), (0 : Int), ((0 : Int), (0 : Int), (0 : Int), (0 : Int), (0 : Int), ()), false, (0 : Int), (0 : Int), ()), ((0 : Int), (0 : Int), (0 : Int), (0 : Int), (0 : Int), ()), (), (140 : Int), ()), ((), ([] : List (Int × Int × Int × Bool × Unit)), ([] : List (Int × Int × Int × Int × Int × Bool × Unit)), ()), ()⟩ else (bif (!(((F_plan (t, (), ()) (p_0, ())).ret : Unit × Bool × Unit).2).1) then ⟨((x0 && x2) && true), false, (((0 : Int), ((0 : Int), (0 : Int), (0 : Int), (0 : Int), (0 : Int), (0 : Int), ()), (), (((0 : Int), (0 : Int), (0 : Int), (0 : Int), (0 : Int), (0 : Int), (0 : Int), (0 : Int), (0 : Int), (0 : Int), (0 : Int), (0 : Int), ()), ()), ((0 : Int), false, (0 : Int), (0 : Int), (0 : Int), (0 : Int), (0 : Int), (0 : Int), (0 : Int), (0 : Int), (0 : Int), (0 : Int), (0 : Int), (0 : Int), (0 : Int), ()), (0 : Int), (0 : Int), (0 : Int), ((0 : Int), (0 : Int), (0 : Int), (0 : Int), (0 : Int), ()), false, (0 : Int), (0 : Int), ()), ((0 : Int), (0 : Int), (0 : Int), (0 : Int), (0 : Int), ()), (), (141 : Int), ()), ((), ([] : List (Int × Int × Int × Bool × Unit)), ([] : List (Int × Int × Int × Int × Int × Bool × Unit)), ()), ()⟩ else (bif (t.2.1 == 0) then ⟨false, false, (((0 : Int), ((0 : Int), (0 : Int), (0 : Int), (0 : Int), (0 : Int), (0 : Int), ()), (), (((0 : Int), (0 : Int), (0 : Int), (0 : Int), (0 : Int), (0 : Int), (0 : Int), (0 : Int), (0 : Int), (0 : Int), (0 : Int), (0 : Int), ()), ()), ((0 : Int), false, (0 : Int), (0 : Int), (0 : Int), (0 : Int), (0 : Int), (0 : Int), (0 : Int), (0 : Int), (0 : Int), (0 : Int), (0 : Int), (0 : Int), (0 : Int), ()), (0 : Int), (0 : Int), (0 : Int), ((0 : Int), (0 : Int), (0 : Int), (0 : Int), (0 : Int), ()), false, (0 : Int), (0 : Int), ()), ((0 : Int), (0 : Int), (0 : Int), (0 : Int), (0 : Int), ()), (), (0 : Int), ()), ((), ([] : List (Int × Int × Int × Bool × Unit)), ([] : List (Int × Int × Int × Int × Int × Bool × Unit)), ()), ()⟩ else (bif (x5.1 != 0) then ⟨((x0 && (x6 && x21)) && true), false, (((0 : Int), ((0 : Int), (0 : Int), (0 : Int), (0 : Int), (0 : Int), (0 : Int), ()), (), (((0 : Int), (0 : Int), (0 : Int), (0 : Int), (0 : Int), (0 : Int), (0 : Int), (0 : Int), (0 : Int), (0 : Int), (0 : Int), (0 : Int), ()), ()), ((0 : Int), false, (0 : Int), (0 : Int), (0 : Int), (0 : Int), (0 : Int), (0 : Int), (0 : Int), (0 : Int), (0 : Int), (0 : Int), (0 : Int), (0 : Int), (0 : Int), ()), (0 : Int), (0 : Int), (0 : Int), ((0 : Int), (0 : Int), (0 : Int), (0 : Int), (0 : Int), ()), false, (0 : Int), (0 : Int), ()), ((0 : Int), (0 : Int), (0 : Int), (0 : Int), (0 : Int), ()), (), x5), ((), ([] : List (Int × Int × Int × Bool × Unit)), ([] : List (Int × Int × Int × Int × Int × Bool × Unit)), ()), ()⟩ else ⟨((x0 && (x6 && (x21 && (Nat.beq x20 (12 / 1))))) && true), false, ((id, t, (), (((x19.getD 0 (0 : Int)), (x19.getD 1 (0 : Int)), (x19.getD 2 (0 : Int)), (x19.getD 3 (0 : Int)), (x19.getD 4 (0 : Int)), (x19.getD 5 (0 : Int)), (x19.getD 6 (0 : Int)), (x19.getD 7 (0 : Int)), (x19.getD 8 (0 : Int)), (x19.getD 9 (0 : Int)), (x19.getD 10 (0 : Int)), (x19.getD 11 (0 : Int)), ()), ()), ((1 : Int), false, (0 : Int), (0 : Int), (0 : Int), (0 : Int), (0 : Int), (0 : Int), (0 : Int), (0 : Int), (0 : Int), (0 : Int), (0 : Int), (0 : Int), (0 : Int), ()), t.2.2.2.2.1, (0 : Int), (0 : Int), ((0 : Int), (0 : Int), (0 : Int), (0 : Int), (0 : Int), ()), false, (0 : Int), (0 : Int), ()), ((0 : Int), (0 : Int), (0 : Int), (0 : Int), (0 : Int), ()), (), (0 : Int), ()), ((), (((F_plan (t, (), ()) (p_0, ())).out : Unit × (List (Int × Int × Int × Bool × Unit)) × Unit).2).1, ([] : List (Int × Int × Int × Int × Int × Bool × Unit)), ()), ()⟩))))) else x1)) := by kernel_rfl
noncomputable def tbl28 : List (Ent TT) := ⟨5, g_open, F_open⟩ :: tbl27
theorem tbl28_ok : TblOK prog globs tbl28 := tbl_cons (by kernel_rfl) F_open_ok tbl27_ok
end Go.Proofs.YtklpneeakhbahaaGreatDoor.Fs
end
