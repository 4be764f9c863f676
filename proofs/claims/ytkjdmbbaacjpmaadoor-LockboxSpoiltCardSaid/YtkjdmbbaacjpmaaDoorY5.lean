-- Texts of this claim, joined and cut down to what it uses (a program of this session).
import Derived.Test.YtkjdmbbaacjpmaaDoorY4
import Derived.Deep.RegionHeld3
import Derived.Deep.LoopGhost
import Derived.Deep.DeepCutAuto
import Derived.Deep.CutBlock
import Derived.Test.YtkjdmbbaacjpmaaDoorProg
import Derived.WalkKit
import Derived.LaidEql
import Derived.Stop.Asserts
import Derived.RowKitTokens
import Derived.Lib.Hide
section
namespace Go.Proofs.YtkjdmbbaacjpmaaDoor.Reader
open Go.RowKit Go.Proofs.YtkjdmbbaacjpmaaDoor.Scan Go.Proofs.YtkjdmbbaacjpmaaDoorW.PrintWords Go.Proofs.YtkjdmbbaacjpmaaDoorW.PrintLast
set_option linter.unusedVariables false
set_option linter.unusedSimpArgs false
def cutA (A : Option Addr) (c e : Nat) : Option Addr := if c = e + 1 then A else A.map (·.add (e + 1))
theorem nextP_some {xs t r : List Int} {letter : Int} {n : Nat} (h : nextP xs letter n = some (t, r)) :
    eol xs < xs.length ∧ t = xs.take (eol xs) ∧ r = xs.drop (eol xs + 1) ∧ t.length = n + 1 ∧ eol xs = n + 1 ∧ (∃ t', t = letter :: t' ∧ t'.all isDig = true) := by
  unfold nextP at h
  split at h
  case isFalse => cases h
  case isTrue hc =>
    obtain ⟨he, hl⟩ := hc
    simp only [Option.some.injEq, Prod.mk.injEq] at h
    obtain ⟨rfl, rfl⟩ := h
    simp only [lineOk, Bool.and_eq_true, decide_eq_true_eq, beq_iff_eq] at hl
    obtain ⟨⟨hl1, hl2⟩, hl3⟩ := hl
    refine ⟨he, rfl, rfl, hl1, ?_, ?_⟩
    · rw [List.length_take] at hl1; omega
    · cases ht : xs.take (eol xs) with
      | nil => rw [ht] at hl2; simp at hl2
      | cons d t' =>
        rw [ht] at hl2 hl3
        simp only [List.head?_cons, Option.some.injEq] at hl2
        subst hl2
        exact ⟨t', rfl, by simpa using hl3⟩
theorem next_ok (sb : Nat) (A : Option Addr) (c : Nat) (xs t r : List Int) (letter : Int) (n : Nat) (w : World) (h : At w A c xs) (hs : w.cell? ⟨sb, 0, none⟩ = some (.slice A xs.length c)) (hf : w.frozen? ⟨sb, 0, none⟩ = false) (hn : n ≤ 100)
    (hx : nextP xs letter n = some (t, r)) :
    Calls Tryd.prog 64 #[.pointer (some ⟨sb, 0, none⟩), .int .u8 letter, .int .i64 n] w fun e w' => e = .returned (.tuple #[.string (strOfNums t), .nilIface]) ∧
      Drawn0 (w.setCell ⟨sb, 0, none⟩ (.slice (cutA A c (eol xs)) r.length (c - (eol xs + 1)))) w' := by
  obtain ⟨he, rfl, rfl, hl, hen, t', ht, hd⟩ := nextP_some hx
  rw [List.length_drop]
  exact next_some sb A c xs letter n t' w h hs hf he (by omega) (by omega) ht hd
theorem next_no (sb : Nat) (A : Option Addr) (c : Nat) (xs : List Int) (letter : Int) (n : Nat) (w : World) (h : At w A c xs) (hs : w.cell? ⟨sb, 0, none⟩ = some (.slice A xs.length c)) (hn : n ≤ 100)
    (hx : nextP xs letter n = none) :
    Calls Tryd.prog 64 #[.pointer (some ⟨sb, 0, none⟩), .int .u8 letter, .int .i64 n] w fun e w' => e = .returned (.tuple #[.string ⟨#[]⟩, .iface 73 (.int .i64 200)]) ∧ Drawn0 w w' := by
  by_cases he : eol xs < xs.length
  · by_cases hl : (eol xs : Int) = n + 1
    · have htl : (xs.take (eol xs)).length = eol xs := by rw [List.length_take]; omega
      cases ht : xs.take (eol xs) with
      | nil => rw [ht] at htl; simp at htl; omega
      | cons d t =>
        by_cases hdl : d = letter
        · subst hdl
          have hdd : t.all isDig = false := by
            apply Bool.eq_false_iff.2
            intro hd
            unfold nextP at hx
            rw [if_pos] at hx
            · cases hx
            · refine ⟨he, ?_⟩
              rw [ht]
              have h1 : (d :: t).length = n + 1 := by rw [← ht, htl]; omega
              simp only [lineOk, h1, List.head?_cons, List.drop_one, List.tail_cons, hd, decide_true, beq_self_eq_true, Bool.and_self]
          exact next_digit sb A c xs d n t w h hs he (by omega) hl ht hdd
        · exact (next_head sb A c xs letter n d t w h hs he (by omega) hl ht hdl).mono fun e w' ⟨h1, h2⟩ => ⟨h1, h2 ▸ Drawn0.refl _⟩
    · exact (next_len sb A c xs letter n w h hs he (by omega) hl).mono fun e w' ⟨h1, h2⟩ => ⟨h1, h2 ▸ Drawn0.refl _⟩
  · exact (next_none sb A c xs letter n w h hs he).mono fun e w' ⟨h1, h2⟩ => ⟨h1, h2 ▸ Drawn0.refl _⟩
theorem field_dig {t t' : List Int} {letter : Int} (ht : t = letter :: t') (hd : t'.all isDig = true) (i n : Nat) (hi : 1 ≤ i) : ((t.drop i).take n).all isDig = true := by
  subst ht
  obtain ⟨j, rfl⟩ : ∃ j, i = j + 1 := ⟨i - 1, by omega⟩
  rw [List.drop_succ_cons]
  rw [List.all_eq_true] at hd ⊢
  intro x hx
  exact hd x (List.mem_of_mem_drop (List.mem_of_mem_take hx))
theorem setCell_size (w : World) (a : Addr) (v : Value) : (w.setCell a v).heap.size = w.heap.size := by simp [World.setCell]
theorem below_swap {w W : World} (h : Below w.heap.size w W) (a : Addr) (v : Value) : Below (w.setCell a v).heap.size (w.setCell a v) (W.setCell a v) := by
  refine ⟨h.os, h.tape, h.output, by rw [setCell_size, setCell_size]; exact h.size, fun k hk => ?_⟩
  rw [setCell_size] at hk
  have := h.block k hk
  simp only [World.setCell, Array.getElem?_modify]
  rw [this]
structure In (w0 w : World) (sb : Nat) (A : Option Addr) (c : Nat) (xs : List Int) (k : Int) : Prop where
  at_ : At w0 A c xs
  tab : C.Tab w0
  bel : Below w0.heap.size w0 w
  ge : w0.heap.size ≤ sb
  blk : w.heap[sb]? = some (.cells #[.slice A xs.length c, .int .i64 k] 93 (0, 0))
theorem In.s0 {w0 w : World} {sb : Nat} {A : Option Addr} {c : Nat} {xs : List Int} {k : Int} (h : In w0 w sb A c xs k) : w.cell? ⟨sb, 0, none⟩ = some (.slice A xs.length c) := blk_cell h.blk 0
theorem In.s1 {w0 w : World} {sb : Nat} {A : Option Addr} {c : Nat} {xs : List Int} {k : Int} (h : In w0 w sb A c xs k) : w.cell? ⟨sb, 1, none⟩ = some (.int .i64 k) := blk_cell h.blk 1
theorem In.lt {w0 w : World} {sb : Nat} {A : Option Addr} {c : Nat} {xs : List Int} {k : Int} (h : In w0 w sb A c xs k) : sb < w.heap.size := blk_lt h.blk
theorem In.step {w0 w W : World} {sb : Nat} {A : Option Addr} {c : Nat} {xs : List Int} {k : Int} (h : In w0 w sb A c xs k) (hb : Below w.heap.size w W) : In w0 W sb A c xs k :=
  ⟨h.at_, h.tab, below_step h.bel hb, h.ge, blk_below h.blk hb⟩
theorem In.here {w0 w : World} {sb : Nat} {A : Option Addr} {c : Nat} {xs : List Int} {k : Int} (h : In w0 w sb A c xs k) : At w A c xs := h.at_.frame h.bel
def left (sb : Nat) (A : Option Addr) (c : Nat) (xs r : List Int) (w : World) : World := w.setCell ⟨sb, 0, none⟩ (.slice (cutA A c (eol xs)) r.length (c - (eol xs + 1)))
theorem left_size (sb : Nat) (A : Option Addr) (c : Nat) (xs r : List Int) (w : World) : (left sb A c xs r w).heap.size = w.heap.size := setCell_size _ _ _
set_option maxRecDepth 100000 in
theorem header_no (sb : Nat) (A : Option Addr) (c : Nat) (xs : List Int) (w : World) (h : At w A c xs) (hs : w.cell? ⟨sb, 0, none⟩ = some (.slice A xs.length c)) (hx : nextP xs 72 14 = none) :
    Calls Tryd.prog 51 #[.pointer (some ⟨sb, 0, none⟩)] w fun e w' => e = .returned (.tuple #[.agg #[.int .i64 0, .int .i64 0, .slice none 0 0], .iface 73 (.int .i64 200)]) ∧ Below w.heap.size w w' := by
  have hlt : sb < w.heap.size := World.block_lt_of_cell? w ⟨sb, 0, none⟩ hs
  have HN : Aside0 (∀ W, Below w.heap.size w W → Calls Tryd.prog 64 #[.pointer (some ⟨sb, 0, none⟩), .int .u8 72, .int .i64 14] W fun e w' => e = .returned (.tuple #[.string ⟨#[]⟩, .iface 73 (.int .i64 200)]) ∧ Drawn0 W w') :=
    ⟨fun W hb => next_no sb A c xs 72 14 W (h.frame hb) ((hb.cell hlt).trans hs) (by omega) hx⟩
  clear h hs hx
  go_enter Tryd.func51, Tryd.ntmps51
  go_wp2_with (first | (go_at_call 64; (with_reducible refine (HN.out _ ?_).mono ?_); (repeat (first | exact Below.refl _ _ | apply pw_below_drewN | apply below_alloc)); rintro e w' ⟨rfl, ⟨nd, rfl⟩⟩))
  exact bodyPost_ret (v := .tuple #[.agg #[.int .i64 0, .int .i64 0, .slice none 0 0], .iface 73 (.int .i64 200)]) (by simp [results, Tryd.results51, go_sem]) rfl ⟨rfl, by repeat (first | exact Below.refl _ _ | apply pw_below_drewN | apply below_alloc | refine below_set ?_ (Nat.le_refl _))⟩
def headD (t : List Int) : Int × Bool := numberR (fieldP t 1 4) (fieldP t 5 2) (fieldP t 7 2)
theorem next_W {w0 w : World} {sb : Nat} {A : Option Addr} {c : Nat} {xs t r : List Int} {k letter : Int} {n : Nat} (h : In w0 w sb A c xs k) (m : Int) (hm : m = n) (hn : n ≤ 100) (hx : nextP xs letter n = some (t, r)) (W : World) (hb : Below w.heap.size w W) :
    Calls Tryd.prog 64 #[.pointer (some ⟨sb, 0, none⟩), .int .u8 letter, .int .i64 m] W fun e w' => e = .returned (.tuple #[.string (strOfNums t), .nilIface]) ∧ Below (left sb A c xs r w).heap.size (left sb A c xs r w) w' ∧
      (∀ o ob, w.heap.size ≤ ob → W.heap[ob]? = some o → w'.heap[ob]? = some o) := by
  subst hm
  have hi := h.step hb
  refine (next_ok sb A c xs t r letter n W hi.here hi.s0 (blk_frozen hi.blk 0) hn hx).mono ?_
  rintro e w' ⟨rfl, ⟨nd, rfl⟩⟩
  refine ⟨rfl, pw_below_drewN (below_swap hb _ _) nd, ?_⟩
  intro o ob hob ho
  have hlt := h.lt
  show (W.setCell _ _).heap[ob]? = some o
  rw [Below.heap_setCell _ _ _ _ (show ob ≠ sb by omega)]
  exact ho
theorem num_W (t t' : List Int) (letter : Int) (ht : t = letter :: t') (hd : t'.all isDig = true) (i n : Nat) (hi : 1 ≤ i) (hin : i + n ≤ t.length) (hn : 1 ≤ n ∧ n ≤ 18) (hl : t.length ≤ 1000) (i' n' : Int) (hi' : i' = i) (hn' : n' = n) :
    Aside0 (∀ W, Calls Tryd.prog 66 #[.string (strOfNums t), .int .i64 i', .int .i64 n'] W fun e w' => e = .returned (.int .i64 (fieldP t i n)) ∧ Below W.heap.size W w') :=
  ⟨fun W => by subst hi' hn'; exact num_calls t i n hin hn hl (field_dig ht hd i n hi) W⟩
structure DS (wl : World) (sb rb ib : Nat) (k l a : Int) (W : World) : Prop where
  bel : Below wl.heap.size wl W
  res : W.heap[rb]? = some (.cells #[.int .i64 0, .int .i64 0] 50 (0, 0))
  itm : W.heap[ib]? = some (.cells #[.int .i64 l, .int .i64 a] 50 (0, 0))
  lin : W.cell? ⟨sb, 1, none⟩ = some (.int .i64 k)
theorem DS.call {wl W W2 : World} {sb rb ib : Nat} {k l a : Int} (h : DS wl sb rb ib k l a W) (hb : Below W.heap.size W W2) : DS wl sb rb ib k l a W2 :=
  ⟨below_step h.bel hb, blk_below h.res hb, blk_below h.itm hb, (hb.cell (p := ⟨sb, 1, none⟩) (World.block_lt_of_cell? W _ h.lin)).trans h.lin⟩
theorem DS.drewN {wl W : World} {sb rb ib : Nat} {k l a : Int} (h : DS wl sb rb ib k l a W) (n : Nat) : DS wl sb rb ib k l a (W.drewN n) :=
  ⟨pw_below_drewN h.bel n, h.res, h.itm, h.lin⟩
theorem keepD {wl W : World} {sb rb ib : Nat} {k l a : Int} (h : DS wl sb rb ib k l a W) : W.cell? ⟨sb, 1, none⟩ = some (.int .i64 k) ∧ Aside0 (DS wl sb rb ib k l a W) := ⟨h.lin, ⟨h⟩⟩
theorem DS.drew {wl W : World} {sb rb ib : Nat} {k l a : Int} (h : DS wl sb rb ib k l a W) : DS wl sb rb ib k l a W.drew := ⟨h.bel.drew, h.res, h.itm, h.lin⟩
set_option maxRecDepth 100000 in
theorem header_ok (w0 w : World) (sb : Nat) (A : Option Addr) (c : Nat) (xs t r : List Int) (k d n : Int) (b : Bool) (h : In w0 w sb A c xs k) (hx : nextP xs 72 14 = some (t, r)) (hd : headD t = (d, b)) (hn : fieldP t 9 6 = n) (hb : b = true) (hn0 : n ≠ 0) :
    Calls Tryd.prog 51 #[.pointer (some ⟨sb, 0, none⟩)] w fun e w' => e = .returned (.tuple #[.agg #[.int .i64 d, .int .i64 n, .slice none 0 0], .nilIface]) ∧ Below (left sb A c xs r w).heap.size (left sb A c xs r w) w' := by
  have HN := Aside0.mk (next_W (n := 14) h 14 rfl (by omega) hx)
  obtain ⟨_, _, _, htl, _, t', ht, hdg⟩ := nextP_some hx
  have N1 := num_W t t' 72 ht hdg 1 4 (by omega) (by omega) (by omega) (by omega) 1 4 rfl rfl
  have N2 := num_W t t' 72 ht hdg 5 2 (by omega) (by omega) (by omega) (by omega) 5 2 rfl rfl
  have N3 := num_W t t' 72 ht hdg 7 2 (by omega) (by omega) (by omega) (by omega) 7 2 rfl rfl
  have N4 := num_W t t' 72 ht hdg 9 6 (by omega) (by omega) (by omega) (by omega) 9 6 rfl rfl
  have hnr := number_calls (fieldP t 1 4) (fieldP t 5 2) (fieldP t 7 2)
  rw [show numberR (fieldP t 1 4) (fieldP t 5 2) (fieldP t 7 2) = (d, b) from hd] at hnr
  rw [hn] at N4
  have NR : Aside0 (∀ W, Below (left sb A c xs r w).heap.size (left sb A c xs r w) W → Calls Tryd.prog 65 #[.agg #[.int .i64 (fieldP t 1 4), .int .i64 (fieldP t 5 2), .int .i64 (fieldP t 7 2)]] W fun e w' => e = .returned (.tuple #[.int .i64 d, .bool b]) ∧ Below W.heap.size W w') :=
    ⟨fun W hb => hnr W (C.tab_below h.tab (below_step (below_set h.bel h.ge) hb))⟩
  have HLS := Aside0.mk (Nat.le_of_eq (left_size sb A c xs r w))
  clear h hx hd hn ht hdg htl hnr
  subst hb
  have bn0 : (n == 0) = false := by rw [beq_eq_false_iff_ne]; exact hn0
  clear hn0
  generalize fieldP t 1 4 = f1 at *
  generalize fieldP t 5 2 = f2 at *
  generalize fieldP t 7 2 = f3 at *
  generalize strOfNums t = s at *
  generalize left sb A c xs r w = wl at *
  go_enter Tryd.func51, Tryd.ntmps51
  go_wp2_with (first
    | (go_at_call 64; (with_reducible refine (HN.out _ ?_).mono ?_); (repeat (first | exact Below.refl _ _ | apply pw_below_drewN | apply below_alloc)); rintro e w' ⟨rfl, hb, hk⟩; have HB := Aside0.mk hb; have BK := Aside0.mk (hk _ _ (Nat.le_refl _) (blk_new _ _)); clear hb hk)
    | (go_at_call 66; (with_reducible refine (N1.out _).mono ?_); rintro e w' ⟨rfl, hb⟩; replace BK := Aside0.mk (blk_below BK.out hb); replace HB := Aside0.mk (below_step HB.out hb); clear hb)
    | (go_at_call 66; (with_reducible refine (N2.out _).mono ?_); rintro e w' ⟨rfl, hb⟩; replace BK := Aside0.mk (blk_below BK.out hb); replace HB := Aside0.mk (below_step HB.out hb); clear hb)
    | (go_at_call 66; (with_reducible refine (N3.out _).mono ?_); rintro e w' ⟨rfl, hb⟩; replace BK := Aside0.mk (blk_below BK.out hb); replace HB := Aside0.mk (below_step HB.out hb); clear hb)
    | (go_at_call 66; (with_reducible refine (N4.out _).mono ?_); rintro e w' ⟨rfl, hb⟩; replace BK := Aside0.mk (blk_below BK.out hb); replace HB := Aside0.mk (below_step HB.out hb); clear hb; have c0_ : w'.cell? ⟨w.heap.size, 0, none⟩ = some (.int .i64 0) := blk_cell BK.out 0; have z0_ := blk_frozen BK.out 0; have c1_ : w'.cell? ⟨w.heap.size, 1, none⟩ = some (.int .i64 0) := blk_cell BK.out 1; have z1_ := blk_frozen BK.out 1; have c2_ : w'.cell? ⟨w.heap.size, 2, none⟩ = some (.slice none 0 0) := blk_cell BK.out 2; have z2_ := blk_frozen BK.out 2)
    | (go_at_call 65; (with_reducible refine (NR.out _ HB.out).mono ?_); rintro e w' ⟨rfl, hb⟩; replace BK := Aside0.mk (blk_below BK.out hb); replace HB := Aside0.mk (below_step HB.out hb); clear hb))
  exact bodyPost_ret (v := .tuple #[.agg #[.int .i64 d, .int .i64 n, .slice none 0 0], .nilIface]) (by simp [results, Tryd.results51, go_sem, c0_, c1_, c2_]) rfl ⟨rfl, by repeat (first | exact HB.out | refine below_set ?_ HLS.out)⟩
set_option maxRecDepth 100000 in
theorem header_out (w0 w : World) (sb : Nat) (A : Option Addr) (c : Nat) (xs t r : List Int) (k d n : Int) (b : Bool) (h : In w0 w sb A c xs k) (hx : nextP xs 72 14 = some (t, r)) (hd : headD t = (d, b)) (hn : fieldP t 9 6 = n) (hb : b = false) :
    Calls Tryd.prog 51 #[.pointer (some ⟨sb, 0, none⟩)] w fun e w' => e = .returned (.tuple #[.agg #[.int .i64 0, .int .i64 0, .slice none 0 0], .iface 73 (.int .i64 200)]) ∧ Below (left sb A c xs r w).heap.size (left sb A c xs r w) w' := by
  have HN := Aside0.mk (next_W (n := 14) h 14 rfl (by omega) hx)
  obtain ⟨_, _, _, htl, _, t', ht, hdg⟩ := nextP_some hx
  have N1 := num_W t t' 72 ht hdg 1 4 (by omega) (by omega) (by omega) (by omega) 1 4 rfl rfl
  have N2 := num_W t t' 72 ht hdg 5 2 (by omega) (by omega) (by omega) (by omega) 5 2 rfl rfl
  have N3 := num_W t t' 72 ht hdg 7 2 (by omega) (by omega) (by omega) (by omega) 7 2 rfl rfl
  have N4 := num_W t t' 72 ht hdg 9 6 (by omega) (by omega) (by omega) (by omega) 9 6 rfl rfl
  have hnr := number_calls (fieldP t 1 4) (fieldP t 5 2) (fieldP t 7 2)
  rw [show numberR (fieldP t 1 4) (fieldP t 5 2) (fieldP t 7 2) = (d, b) from hd] at hnr
  rw [hn] at N4
  have NR : Aside0 (∀ W, Below (left sb A c xs r w).heap.size (left sb A c xs r w) W → Calls Tryd.prog 65 #[.agg #[.int .i64 (fieldP t 1 4), .int .i64 (fieldP t 5 2), .int .i64 (fieldP t 7 2)]] W fun e w' => e = .returned (.tuple #[.int .i64 d, .bool b]) ∧ Below W.heap.size W w') :=
    ⟨fun W hb => hnr W (C.tab_below h.tab (below_step (below_set h.bel h.ge) hb))⟩
  have HLS := Aside0.mk (Nat.le_of_eq (left_size sb A c xs r w))
  clear h hx hd hn ht hdg htl hnr
  subst hb
  generalize fieldP t 1 4 = f1 at *
  generalize fieldP t 5 2 = f2 at *
  generalize fieldP t 7 2 = f3 at *
  generalize strOfNums t = s at *
  generalize left sb A c xs r w = wl at *
  go_enter Tryd.func51, Tryd.ntmps51
  go_wp2_with (first
    | (go_at_call 64; (with_reducible refine (HN.out _ ?_).mono ?_); (repeat (first | exact Below.refl _ _ | apply pw_below_drewN | apply below_alloc)); rintro e w' ⟨rfl, hb, hk⟩; have HB := Aside0.mk hb; have BK := Aside0.mk (hk _ _ (Nat.le_refl _) (blk_new _ _)); clear hb hk)
    | (go_at_call 66; (with_reducible refine (N1.out _).mono ?_); rintro e w' ⟨rfl, hb⟩; replace BK := Aside0.mk (blk_below BK.out hb); replace HB := Aside0.mk (below_step HB.out hb); clear hb)
    | (go_at_call 66; (with_reducible refine (N2.out _).mono ?_); rintro e w' ⟨rfl, hb⟩; replace BK := Aside0.mk (blk_below BK.out hb); replace HB := Aside0.mk (below_step HB.out hb); clear hb)
    | (go_at_call 66; (with_reducible refine (N3.out _).mono ?_); rintro e w' ⟨rfl, hb⟩; replace BK := Aside0.mk (blk_below BK.out hb); replace HB := Aside0.mk (below_step HB.out hb); clear hb)
    | (go_at_call 66; (with_reducible refine (N4.out _).mono ?_); rintro e w' ⟨rfl, hb⟩; replace BK := Aside0.mk (blk_below BK.out hb); replace HB := Aside0.mk (below_step HB.out hb); clear hb; have c0_ : w'.cell? ⟨w.heap.size, 0, none⟩ = some (.int .i64 0) := blk_cell BK.out 0; have z0_ := blk_frozen BK.out 0; have c1_ : w'.cell? ⟨w.heap.size, 1, none⟩ = some (.int .i64 0) := blk_cell BK.out 1; have z1_ := blk_frozen BK.out 1; have c2_ : w'.cell? ⟨w.heap.size, 2, none⟩ = some (.slice none 0 0) := blk_cell BK.out 2; have z2_ := blk_frozen BK.out 2)
    | (go_at_call 65; (with_reducible refine (NR.out _ HB.out).mono ?_); rintro e w' ⟨rfl, hb⟩; replace BK := Aside0.mk (blk_below BK.out hb); replace HB := Aside0.mk (below_step HB.out hb); clear hb))
  exact bodyPost_ret (v := .tuple #[.agg #[.int .i64 0, .int .i64 0, .slice none 0 0], .iface 73 (.int .i64 200)]) (by simp [results, Tryd.results51, go_sem, c0_, c1_, c2_]) rfl ⟨rfl, by repeat (first | exact HB.out | refine below_set ?_ HLS.out)⟩
set_option maxRecDepth 100000 in
theorem header_zero (w0 w : World) (sb : Nat) (A : Option Addr) (c : Nat) (xs t r : List Int) (k d n : Int) (b : Bool) (h : In w0 w sb A c xs k) (hx : nextP xs 72 14 = some (t, r)) (hd : headD t = (d, b)) (hn : fieldP t 9 6 = n) (hb : b = true) (hn0 : n = 0) :
    Calls Tryd.prog 51 #[.pointer (some ⟨sb, 0, none⟩)] w fun e w' => e = .returned (.tuple #[.agg #[.int .i64 0, .int .i64 0, .slice none 0 0], .iface 73 (.int .i64 200)]) ∧ Below (left sb A c xs r w).heap.size (left sb A c xs r w) w' := by
  have HN := Aside0.mk (next_W (n := 14) h 14 rfl (by omega) hx)
  obtain ⟨_, _, _, htl, _, t', ht, hdg⟩ := nextP_some hx
  have N1 := num_W t t' 72 ht hdg 1 4 (by omega) (by omega) (by omega) (by omega) 1 4 rfl rfl
  have N2 := num_W t t' 72 ht hdg 5 2 (by omega) (by omega) (by omega) (by omega) 5 2 rfl rfl
  have N3 := num_W t t' 72 ht hdg 7 2 (by omega) (by omega) (by omega) (by omega) 7 2 rfl rfl
  have N4 := num_W t t' 72 ht hdg 9 6 (by omega) (by omega) (by omega) (by omega) 9 6 rfl rfl
  have hnr := number_calls (fieldP t 1 4) (fieldP t 5 2) (fieldP t 7 2)
  rw [show numberR (fieldP t 1 4) (fieldP t 5 2) (fieldP t 7 2) = (d, b) from hd] at hnr
  rw [hn] at N4
  have NR : Aside0 (∀ W, Below (left sb A c xs r w).heap.size (left sb A c xs r w) W → Calls Tryd.prog 65 #[.agg #[.int .i64 (fieldP t 1 4), .int .i64 (fieldP t 5 2), .int .i64 (fieldP t 7 2)]] W fun e w' => e = .returned (.tuple #[.int .i64 d, .bool b]) ∧ Below W.heap.size W w') :=
    ⟨fun W hb => hnr W (C.tab_below h.tab (below_step (below_set h.bel h.ge) hb))⟩
  have HLS := Aside0.mk (Nat.le_of_eq (left_size sb A c xs r w))
  clear h hx hd hn ht hdg htl hnr
  subst hb hn0
  generalize fieldP t 1 4 = f1 at *
  generalize fieldP t 5 2 = f2 at *
  generalize fieldP t 7 2 = f3 at *
  generalize strOfNums t = s at *
  generalize left sb A c xs r w = wl at *
  go_enter Tryd.func51, Tryd.ntmps51
  go_wp2_with (first
    | (go_at_call 64; (with_reducible refine (HN.out _ ?_).mono ?_); (repeat (first | exact Below.refl _ _ | apply pw_below_drewN | apply below_alloc)); rintro e w' ⟨rfl, hb, hk⟩; have HB := Aside0.mk hb; have BK := Aside0.mk (hk _ _ (Nat.le_refl _) (blk_new _ _)); clear hb hk)
    | (go_at_call 66; (with_reducible refine (N1.out _).mono ?_); rintro e w' ⟨rfl, hb⟩; replace BK := Aside0.mk (blk_below BK.out hb); replace HB := Aside0.mk (below_step HB.out hb); clear hb)
    | (go_at_call 66; (with_reducible refine (N2.out _).mono ?_); rintro e w' ⟨rfl, hb⟩; replace BK := Aside0.mk (blk_below BK.out hb); replace HB := Aside0.mk (below_step HB.out hb); clear hb)
    | (go_at_call 66; (with_reducible refine (N3.out _).mono ?_); rintro e w' ⟨rfl, hb⟩; replace BK := Aside0.mk (blk_below BK.out hb); replace HB := Aside0.mk (below_step HB.out hb); clear hb)
    | (go_at_call 66; (with_reducible refine (N4.out _).mono ?_); rintro e w' ⟨rfl, hb⟩; replace BK := Aside0.mk (blk_below BK.out hb); replace HB := Aside0.mk (below_step HB.out hb); clear hb; have c0_ : w'.cell? ⟨w.heap.size, 0, none⟩ = some (.int .i64 0) := blk_cell BK.out 0; have z0_ := blk_frozen BK.out 0; have c1_ : w'.cell? ⟨w.heap.size, 1, none⟩ = some (.int .i64 0) := blk_cell BK.out 1; have z1_ := blk_frozen BK.out 1; have c2_ : w'.cell? ⟨w.heap.size, 2, none⟩ = some (.slice none 0 0) := blk_cell BK.out 2; have z2_ := blk_frozen BK.out 2)
    | (go_at_call 65; (with_reducible refine (NR.out _ HB.out).mono ?_); rintro e w' ⟨rfl, hb⟩; replace BK := Aside0.mk (blk_below BK.out hb); replace HB := Aside0.mk (below_step HB.out hb); clear hb))
  exact bodyPost_ret (v := .tuple #[.agg #[.int .i64 0, .int .i64 0, .slice none 0 0], .iface 73 (.int .i64 200)]) (by simp [results, Tryd.results51, go_sem, c0_, c1_, c2_]) rfl ⟨rfl, by repeat (first | exact HB.out | refine below_set ?_ HLS.out)⟩
set_option maxRecDepth 100000 in
theorem detail_zero (w0 w : World) (sb : Nat) (A : Option Addr) (c : Nat) (xs t r : List Int) (k l a p : Int) (b : Bool) (h : In w0 w sb A c xs k) (hx : nextP xs 68 23 = some (t, r)) (hl : fieldP t 5 6 = l) (ha : fieldP t 12 12 = a) (hp : fieldP t 1 4 = p) (hv : DDigits.validB (strOfNums ((t.drop 5).take 7)) = b) (hz : l = 0) :
    Calls Tryd.prog 52 #[.pointer (some ⟨sb, 0, none⟩)] w fun e w' => e = .returned (.tuple #[.agg #[.int .i64 0, .int .i64 0], .iface 73 (.int .i64 200)]) ∧ Below (left sb A c xs r w).heap.size (left sb A c xs r w) w' := by
  have HN := Aside0.mk (next_W (n := 23) h 23 rfl (by omega) hx)
  obtain ⟨_, _, _, htl, _, t', ht, hdg⟩ := nextP_some hx
  have N1 := num_W t t' 68 ht hdg 5 6 (by omega) (by omega) (by omega) (by omega) 5 6 rfl rfl
  have N2 := num_W t t' 68 ht hdg 12 12 (by omega) (by omega) (by omega) (by omega) 12 12 rfl rfl
  have N3 := num_W t t' 68 ht hdg 1 4 (by omega) (by omega) (by omega) (by omega) 1 4 rfl rfl
  rw [hl] at N1
  rw [ha] at N2
  rw [hp] at N3
  have hs1 : (left sb A c xs r w).cell? ⟨sb, 1, none⟩ = some (.int .i64 k) := blk_cell (blk_set h.blk 0 _) 1
  have hsl : sb < (left sb A c xs r w).heap.size := by rw [left_size]; exact h.lt
  have SC : Aside0 (∀ W, Below (left sb A c xs r w).heap.size (left sb A c xs r w) W → W.cell? ⟨sb, 1, none⟩ = some (.int .i64 k)) := ⟨fun W hb => (hb.cell (p := ⟨sb, 1, none⟩) hsl).trans hs1⟩
  have hss : (strOfNums ((t.drop 5).take 7)).size = 7 := by rw [← bytesOf_length, bytesOf_str _ (fun x hx => by
    have := field_dig ht hdg 5 7 (by omega)
    rw [List.all_eq_true] at this
    have := this x hx
    simp only [isDig, decide_eq_true_eq] at this; omega), List.length_take, List.length_drop]; omega
  have VL : Aside0 (∀ W, Calls Tryd.prog 11 #[.string (strOfNums ((t.drop 5).take 7))] W fun e w' => e = .returned (.bool b) ∧ Drawn0 W w') := ⟨fun W => by rw [← hv]; exact DDigits.valid_calls _ (by omega) W⟩
  have hex : (strOfNums t).extract 5 12 = strOfNums ((t.drop 5).take 7) := extract_str t 5 12
  have hsz : (strOfNums t).size = 24 := by
    have h2 := congrArg List.length (strOf_toList t)
    rw [Lib.bytesOf, List.length_map, htl] at h2
    exact h2
  have HLS := Aside0.mk (Nat.le_of_eq (left_size sb A c xs r w))
  clear h hx hl ha hp hv ht hdg htl hs1 hsl hss
  subst hz
  generalize strOfNums ((t.drop 5).take 7) = u at *
  generalize strOfNums t = s at *
  generalize left sb A c xs r w = wl at *
  go_enter Tryd.func52, Tryd.ntmps52
  go_wp2_with (first
    | (go_at_call 64; (with_reducible refine (HN.out _ ?_).mono ?_); (repeat (first | exact Below.refl _ _ | apply pw_below_drewN | apply below_alloc)); rintro e w' ⟨rfl, hb, hk⟩; have HB := Aside0.mk hb; have BK := Aside0.mk (hk _ _ (Nat.le_refl _) (blk_new _ _)); clear hb hk)
    | (go_at_call 66; (with_reducible refine (N1.out _).mono ?_); rintro e w' ⟨rfl, hb⟩; replace BK := Aside0.mk (blk_below BK.out hb); replace HB := Aside0.mk (below_step HB.out hb); clear hb; have c0_ : w'.cell? ⟨w.heap.size, 0, none⟩ = some (.int .i64 0) := blk_cell BK.out 0; have z0_ := blk_frozen BK.out 0; have c1_ : w'.cell? ⟨w.heap.size, 1, none⟩ = some (.int .i64 0) := blk_cell BK.out 1; have z1_ := blk_frozen BK.out 1; have lt_ : w.heap.size < w'.heap.size := blk_lt BK.out; have ne_ : ¬ w.heap.size = w'.heap.size := Nat.ne_of_lt lt_)
    | (go_at_call 66; (with_reducible refine (N2.out _).mono ?_); rintro e w' ⟨rfl, hb⟩; replace BK := Aside0.mk (blk_below BK.out hb); replace HB := Aside0.mk (below_step HB.out hb); clear hb; have c0_ : w'.cell? ⟨w.heap.size, 0, none⟩ = some (.int .i64 0) := blk_cell BK.out 0; have z0_ := blk_frozen BK.out 0; have c1_ : w'.cell? ⟨w.heap.size, 1, none⟩ = some (.int .i64 0) := blk_cell BK.out 1; have z1_ := blk_frozen BK.out 1; have lt_ : w.heap.size < w'.heap.size := blk_lt BK.out; have ne_ : ¬ w.heap.size = w'.heap.size := Nat.ne_of_lt lt_)
    | (go_at_call 66; (with_reducible refine (N3.out _).mono ?_); rintro e w' ⟨rfl, hb⟩; replace BK := Aside0.mk (blk_below BK.out hb); replace HB := Aside0.mk (below_step HB.out hb); clear hb; have c0_ : w'.cell? ⟨w.heap.size, 0, none⟩ = some (.int .i64 0) := blk_cell BK.out 0; have z0_ := blk_frozen BK.out 0; have c1_ : w'.cell? ⟨w.heap.size, 1, none⟩ = some (.int .i64 0) := blk_cell BK.out 1; have z1_ := blk_frozen BK.out 1; have lt_ : w.heap.size < w'.heap.size := blk_lt BK.out; have ne_ : ¬ w.heap.size = w'.heap.size := Nat.ne_of_lt lt_))
  have hlt_ := blk_lt BK.out
  exact bodyPost_ret (v := .tuple #[.agg #[.int .i64 0, .int .i64 0], .iface 73 (.int .i64 200)]) (by simp [results, Tryd.results52, go_sem, c0_, c1_, lt_, ne_]) rfl ⟨rfl, by repeat (first | exact HB.out | apply pw_below_drewN | apply below_alloc | refine below_set ?_ HLS.out | (refine below_set ?_ (Nat.le_trans HLS.out ?_); focus (simp; omega)))⟩
set_option maxRecDepth 100000 in
theorem detail_zero2 (w0 w : World) (sb : Nat) (A : Option Addr) (c : Nat) (xs t r : List Int) (k l a p : Int) (b : Bool) (h : In w0 w sb A c xs k) (hx : nextP xs 68 23 = some (t, r)) (hl : fieldP t 5 6 = l) (ha : fieldP t 12 12 = a) (hp : fieldP t 1 4 = p) (hv : DDigits.validB (strOfNums ((t.drop 5).take 7)) = b) (hz : l ≠ 0) (hz2 : a = 0) :
    Calls Tryd.prog 52 #[.pointer (some ⟨sb, 0, none⟩)] w fun e w' => e = .returned (.tuple #[.agg #[.int .i64 0, .int .i64 0], .iface 73 (.int .i64 200)]) ∧ Below (left sb A c xs r w).heap.size (left sb A c xs r w) w' := by
  have HN := Aside0.mk (next_W (n := 23) h 23 rfl (by omega) hx)
  obtain ⟨_, _, _, htl, _, t', ht, hdg⟩ := nextP_some hx
  have N1 := num_W t t' 68 ht hdg 5 6 (by omega) (by omega) (by omega) (by omega) 5 6 rfl rfl
  have N2 := num_W t t' 68 ht hdg 12 12 (by omega) (by omega) (by omega) (by omega) 12 12 rfl rfl
  have N3 := num_W t t' 68 ht hdg 1 4 (by omega) (by omega) (by omega) (by omega) 1 4 rfl rfl
  rw [hl] at N1
  rw [ha] at N2
  rw [hp] at N3
  have hs1 : (left sb A c xs r w).cell? ⟨sb, 1, none⟩ = some (.int .i64 k) := blk_cell (blk_set h.blk 0 _) 1
  have hsl : sb < (left sb A c xs r w).heap.size := by rw [left_size]; exact h.lt
  have SC : Aside0 (∀ W, Below (left sb A c xs r w).heap.size (left sb A c xs r w) W → W.cell? ⟨sb, 1, none⟩ = some (.int .i64 k)) := ⟨fun W hb => (hb.cell (p := ⟨sb, 1, none⟩) hsl).trans hs1⟩
  have hss : (strOfNums ((t.drop 5).take 7)).size = 7 := by rw [← bytesOf_length, bytesOf_str _ (fun x hx => by
    have := field_dig ht hdg 5 7 (by omega)
    rw [List.all_eq_true] at this
    have := this x hx
    simp only [isDig, decide_eq_true_eq] at this; omega), List.length_take, List.length_drop]; omega
  have VL : Aside0 (∀ W, Calls Tryd.prog 11 #[.string (strOfNums ((t.drop 5).take 7))] W fun e w' => e = .returned (.bool b) ∧ Drawn0 W w') := ⟨fun W => by rw [← hv]; exact DDigits.valid_calls _ (by omega) W⟩
  have hex : (strOfNums t).extract 5 12 = strOfNums ((t.drop 5).take 7) := extract_str t 5 12
  have hsz : (strOfNums t).size = 24 := by
    have h2 := congrArg List.length (strOf_toList t)
    rw [Lib.bytesOf, List.length_map, htl] at h2
    exact h2
  have HLS := Aside0.mk (Nat.le_of_eq (left_size sb A c xs r w))
  clear h hx hl ha hp hv ht hdg htl hs1 hsl hss
  subst hz2
  have bl : (l == 0) = false := by rw [beq_eq_false_iff_ne]; exact hz
  clear hz
  generalize strOfNums ((t.drop 5).take 7) = u at *
  generalize strOfNums t = s at *
  generalize left sb A c xs r w = wl at *
  go_enter Tryd.func52, Tryd.ntmps52
  go_wp2_with (first
    | (go_at_call 64; (with_reducible refine (HN.out _ ?_).mono ?_); (repeat (first | exact Below.refl _ _ | apply pw_below_drewN | apply below_alloc)); rintro e w' ⟨rfl, hb, hk⟩; have HB := Aside0.mk hb; have BK := Aside0.mk (hk _ _ (Nat.le_refl _) (blk_new _ _)); clear hb hk)
    | (go_at_call 66; (with_reducible refine (N1.out _).mono ?_); rintro e w' ⟨rfl, hb⟩; replace BK := Aside0.mk (blk_below BK.out hb); replace HB := Aside0.mk (below_step HB.out hb); clear hb; have c0_ : w'.cell? ⟨w.heap.size, 0, none⟩ = some (.int .i64 0) := blk_cell BK.out 0; have z0_ := blk_frozen BK.out 0; have c1_ : w'.cell? ⟨w.heap.size, 1, none⟩ = some (.int .i64 0) := blk_cell BK.out 1; have z1_ := blk_frozen BK.out 1; have lt_ : w.heap.size < w'.heap.size := blk_lt BK.out; have ne_ : ¬ w.heap.size = w'.heap.size := Nat.ne_of_lt lt_)
    | (go_at_call 66; (with_reducible refine (N2.out _).mono ?_); rintro e w' ⟨rfl, hb⟩; replace BK := Aside0.mk (blk_below BK.out hb); replace HB := Aside0.mk (below_step HB.out hb); clear hb; have c0_ : w'.cell? ⟨w.heap.size, 0, none⟩ = some (.int .i64 0) := blk_cell BK.out 0; have z0_ := blk_frozen BK.out 0; have c1_ : w'.cell? ⟨w.heap.size, 1, none⟩ = some (.int .i64 0) := blk_cell BK.out 1; have z1_ := blk_frozen BK.out 1; have lt_ : w.heap.size < w'.heap.size := blk_lt BK.out; have ne_ : ¬ w.heap.size = w'.heap.size := Nat.ne_of_lt lt_)
    | (go_at_call 66; (with_reducible refine (N3.out _).mono ?_); rintro e w' ⟨rfl, hb⟩; replace BK := Aside0.mk (blk_below BK.out hb); replace HB := Aside0.mk (below_step HB.out hb); clear hb; have c0_ : w'.cell? ⟨w.heap.size, 0, none⟩ = some (.int .i64 0) := blk_cell BK.out 0; have z0_ := blk_frozen BK.out 0; have c1_ : w'.cell? ⟨w.heap.size, 1, none⟩ = some (.int .i64 0) := blk_cell BK.out 1; have z1_ := blk_frozen BK.out 1; have lt_ : w.heap.size < w'.heap.size := blk_lt BK.out; have ne_ : ¬ w.heap.size = w'.heap.size := Nat.ne_of_lt lt_))
  have hlt_ := blk_lt BK.out
  exact bodyPost_ret (v := .tuple #[.agg #[.int .i64 0, .int .i64 0], .iface 73 (.int .i64 200)]) (by simp [results, Tryd.results52, go_sem, c0_, c1_, lt_, ne_]) rfl ⟨rfl, by repeat (first | exact HB.out | apply pw_below_drewN | apply below_alloc | refine below_set ?_ HLS.out | (refine below_set ?_ (Nat.le_trans HLS.out ?_); focus (simp; omega)))⟩
set_option maxRecDepth 100000 in
theorem detail_digit (w0 w : World) (sb : Nat) (A : Option Addr) (c : Nat) (xs t r : List Int) (k l a p : Int) (b : Bool) (h : In w0 w sb A c xs k) (hx : nextP xs 68 23 = some (t, r)) (hl : fieldP t 5 6 = l) (ha : fieldP t 12 12 = a) (hp : fieldP t 1 4 = p) (hv : DDigits.validB (strOfNums ((t.drop 5).take 7)) = b) (hz : l ≠ 0) (hz2 : a ≠ 0) (hb : b = false) :
    Calls Tryd.prog 52 #[.pointer (some ⟨sb, 0, none⟩)] w fun e w' => e = .returned (.tuple #[.agg #[.int .i64 0, .int .i64 0], .iface 73 (.int .i64 201)]) ∧ Below (left sb A c xs r w).heap.size (left sb A c xs r w) w' := by
  have HN := Aside0.mk (next_W (n := 23) h 23 rfl (by omega) hx)
  obtain ⟨_, _, _, htl, _, t', ht, hdg⟩ := nextP_some hx
  have N1 := num_W t t' 68 ht hdg 5 6 (by omega) (by omega) (by omega) (by omega) 5 6 rfl rfl
  have N2 := num_W t t' 68 ht hdg 12 12 (by omega) (by omega) (by omega) (by omega) 12 12 rfl rfl
  have N3 := num_W t t' 68 ht hdg 1 4 (by omega) (by omega) (by omega) (by omega) 1 4 rfl rfl
  rw [hl] at N1
  rw [ha] at N2
  rw [hp] at N3
  have hs1 : (left sb A c xs r w).cell? ⟨sb, 1, none⟩ = some (.int .i64 k) := blk_cell (blk_set h.blk 0 _) 1
  have hsl : sb < (left sb A c xs r w).heap.size := by rw [left_size]; exact h.lt
  have SC : Aside0 (∀ W, Below (left sb A c xs r w).heap.size (left sb A c xs r w) W → W.cell? ⟨sb, 1, none⟩ = some (.int .i64 k)) := ⟨fun W hb => (hb.cell (p := ⟨sb, 1, none⟩) hsl).trans hs1⟩
  have hss : (strOfNums ((t.drop 5).take 7)).size = 7 := by rw [← bytesOf_length, bytesOf_str _ (fun x hx => by
    have := field_dig ht hdg 5 7 (by omega)
    rw [List.all_eq_true] at this
    have := this x hx
    simp only [isDig, decide_eq_true_eq] at this; omega), List.length_take, List.length_drop]; omega
  have VL : Aside0 (∀ W, Calls Tryd.prog 11 #[.string (strOfNums ((t.drop 5).take 7))] W fun e w' => e = .returned (.bool b) ∧ Drawn0 W w') := ⟨fun W => by rw [← hv]; exact DDigits.valid_calls _ (by omega) W⟩
  have hex : (strOfNums t).extract 5 12 = strOfNums ((t.drop 5).take 7) := extract_str t 5 12
  have hsz : (strOfNums t).size = 24 := by
    have h2 := congrArg List.length (strOf_toList t)
    rw [Lib.bytesOf, List.length_map, htl] at h2
    exact h2
  have HLS := Aside0.mk (Nat.le_of_eq (left_size sb A c xs r w))
  clear h hx hl ha hp hv ht hdg htl hs1 hsl hss
  subst hb
  have bl : (l == 0) = false := by rw [beq_eq_false_iff_ne]; exact hz
  have ba : (a == 0) = false := by rw [beq_eq_false_iff_ne]; exact hz2
  clear hz hz2
  generalize strOfNums ((t.drop 5).take 7) = u at *
  generalize strOfNums t = s at *
  generalize left sb A c xs r w = wl at *
  go_enter Tryd.func52, Tryd.ntmps52
  go_wp2_with (first
    | (go_at_call 64; (with_reducible refine (HN.out _ ?_).mono ?_); (repeat (first | exact Below.refl _ _ | apply pw_below_drewN | apply below_alloc)); rintro e w' ⟨rfl, hb, hk⟩; have HB := Aside0.mk hb; have BK := Aside0.mk (hk _ _ (Nat.le_refl _) (blk_new _ _)); clear hb hk)
    | (go_at_call 66; (with_reducible refine (N1.out _).mono ?_); rintro e w' ⟨rfl, hb⟩; replace BK := Aside0.mk (blk_below BK.out hb); replace HB := Aside0.mk (below_step HB.out hb); clear hb; have c0_ : w'.cell? ⟨w.heap.size, 0, none⟩ = some (.int .i64 0) := blk_cell BK.out 0; have z0_ := blk_frozen BK.out 0; have c1_ : w'.cell? ⟨w.heap.size, 1, none⟩ = some (.int .i64 0) := blk_cell BK.out 1; have z1_ := blk_frozen BK.out 1; have lt_ : w.heap.size < w'.heap.size := blk_lt BK.out; have ne_ : ¬ w.heap.size = w'.heap.size := Nat.ne_of_lt lt_)
    | (go_at_call 66; (with_reducible refine (N2.out _).mono ?_); rintro e w' ⟨rfl, hb⟩; replace BK := Aside0.mk (blk_below BK.out hb); replace HB := Aside0.mk (below_step HB.out hb); clear hb; have c0_ : w'.cell? ⟨w.heap.size, 0, none⟩ = some (.int .i64 0) := blk_cell BK.out 0; have z0_ := blk_frozen BK.out 0; have c1_ : w'.cell? ⟨w.heap.size, 1, none⟩ = some (.int .i64 0) := blk_cell BK.out 1; have z1_ := blk_frozen BK.out 1; have lt_ : w.heap.size < w'.heap.size := blk_lt BK.out; have ne_ : ¬ w.heap.size = w'.heap.size := Nat.ne_of_lt lt_)
    | (go_at_call 66; (with_reducible refine (N3.out _).mono ?_); rintro e w' ⟨rfl, hb⟩; replace BK := Aside0.mk (blk_below BK.out hb); replace HB := Aside0.mk (below_step HB.out hb); clear hb; have c0_ : w'.cell? ⟨w.heap.size, 0, none⟩ = some (.int .i64 0) := blk_cell BK.out 0; have z0_ := blk_frozen BK.out 0; have c1_ : w'.cell? ⟨w.heap.size, 1, none⟩ = some (.int .i64 0) := blk_cell BK.out 1; have z1_ := blk_frozen BK.out 1; have lt_ : w.heap.size < w'.heap.size := blk_lt BK.out; have ne_ : ¬ w.heap.size = w'.heap.size := Nat.ne_of_lt lt_)
    | (go_at_call 11; (with_reducible refine (VL.out _).mono ?_); rintro e w' ⟨rfl, ⟨nd, rfl⟩⟩))
  have hlt_ := blk_lt BK.out
  exact bodyPost_ret (v := .tuple #[.agg #[.int .i64 0, .int .i64 0], .iface 73 (.int .i64 201)]) (by simp [results, Tryd.results52, go_sem, c0_, c1_, lt_, ne_]) rfl ⟨rfl, by repeat (first | exact HB.out | apply pw_below_drewN | apply below_alloc | refine below_set ?_ HLS.out | (refine below_set ?_ (Nat.le_trans HLS.out ?_); focus (simp; omega)))⟩
set_option maxRecDepth 100000 in
theorem detail_ok (w0 w : World) (sb : Nat) (A : Option Addr) (c : Nat) (xs t r : List Int) (k l a p : Int) (b : Bool) (h : In w0 w sb A c xs k) (hx : nextP xs 68 23 = some (t, r)) (hl : fieldP t 5 6 = l) (ha : fieldP t 12 12 = a) (hp : fieldP t 1 4 = p) (hv : DDigits.validB (strOfNums ((t.drop 5).take 7)) = b) (hz : l ≠ 0) (hz2 : a ≠ 0) (hb : b = true) (hpk : k = p) :
    Calls Tryd.prog 52 #[.pointer (some ⟨sb, 0, none⟩)] w fun e w' => e = .returned (.tuple #[.agg #[.int .i64 l, .int .i64 a], .nilIface]) ∧ Below (left sb A c xs r w).heap.size (left sb A c xs r w) w' := by
  have HN := Aside0.mk (next_W (n := 23) h 23 rfl (by omega) hx)
  obtain ⟨_, _, _, htl, _, t', ht, hdg⟩ := nextP_some hx
  have N1 := num_W t t' 68 ht hdg 5 6 (by omega) (by omega) (by omega) (by omega) 5 6 rfl rfl
  have N2 := num_W t t' 68 ht hdg 12 12 (by omega) (by omega) (by omega) (by omega) 12 12 rfl rfl
  have N3 := num_W t t' 68 ht hdg 1 4 (by omega) (by omega) (by omega) (by omega) 1 4 rfl rfl
  rw [hl] at N1
  rw [ha] at N2
  rw [hp] at N3
  have hs1 : (left sb A c xs r w).cell? ⟨sb, 1, none⟩ = some (.int .i64 k) := blk_cell (blk_set h.blk 0 _) 1
  have hsl : sb < (left sb A c xs r w).heap.size := by rw [left_size]; exact h.lt
  have SC : Aside0 (∀ W, Below (left sb A c xs r w).heap.size (left sb A c xs r w) W → W.cell? ⟨sb, 1, none⟩ = some (.int .i64 k)) := ⟨fun W hb => (hb.cell (p := ⟨sb, 1, none⟩) hsl).trans hs1⟩
  have hss : (strOfNums ((t.drop 5).take 7)).size = 7 := by rw [← bytesOf_length, bytesOf_str _ (fun x hx => by
    have := field_dig ht hdg 5 7 (by omega)
    rw [List.all_eq_true] at this
    have := this x hx
    simp only [isDig, decide_eq_true_eq] at this; omega), List.length_take, List.length_drop]; omega
  have VL : Aside0 (∀ W, Calls Tryd.prog 11 #[.string (strOfNums ((t.drop 5).take 7))] W fun e w' => e = .returned (.bool b) ∧ Drawn0 W w') := ⟨fun W => by rw [← hv]; exact DDigits.valid_calls _ (by omega) W⟩
  have hex : (strOfNums t).extract 5 12 = strOfNums ((t.drop 5).take 7) := extract_str t 5 12
  have hsz : (strOfNums t).size = 24 := by
    have h2 := congrArg List.length (strOf_toList t)
    rw [Lib.bytesOf, List.length_map, htl] at h2
    exact h2
  have HLS := Aside0.mk (Nat.le_of_eq (left_size sb A c xs r w))
  clear h hx hl ha hp hv ht hdg htl hs1 hsl hss
  subst hb hpk
  have bl : (l == 0) = false := by rw [beq_eq_false_iff_ne]; exact hz
  have ba : (a == 0) = false := by rw [beq_eq_false_iff_ne]; exact hz2
  clear hz hz2
  generalize strOfNums ((t.drop 5).take 7) = u at *
  generalize strOfNums t = s at *
  generalize left sb A c xs r w = wl at *
  go_enter Tryd.func52, Tryd.ntmps52
  go_wp2_with (first
    | (go_at_call 64; (with_reducible refine (HN.out _ ?_).mono ?_); (repeat (first | exact Below.refl _ _ | apply pw_below_drewN | apply below_alloc)); rintro e w' ⟨rfl, hb, hk⟩; have HB := Aside0.mk hb; have BK := Aside0.mk (hk _ _ (Nat.le_refl _) (blk_new _ _)); clear hb hk)
    | (go_at_call 66; (with_reducible refine (N1.out _).mono ?_); rintro e w' ⟨rfl, hb⟩; replace BK := Aside0.mk (blk_below BK.out hb); replace HB := Aside0.mk (below_step HB.out hb); clear hb; have c0_ : w'.cell? ⟨w.heap.size, 0, none⟩ = some (.int .i64 0) := blk_cell BK.out 0; have z0_ := blk_frozen BK.out 0; have c1_ : w'.cell? ⟨w.heap.size, 1, none⟩ = some (.int .i64 0) := blk_cell BK.out 1; have z1_ := blk_frozen BK.out 1; have lt_ : w.heap.size < w'.heap.size := blk_lt BK.out; have ne_ : ¬ w.heap.size = w'.heap.size := Nat.ne_of_lt lt_)
    | (go_at_call 66; (with_reducible refine (N2.out _).mono ?_); rintro e w' ⟨rfl, hb⟩; replace BK := Aside0.mk (blk_below BK.out hb); replace HB := Aside0.mk (below_step HB.out hb); clear hb; have c0_ : w'.cell? ⟨w.heap.size, 0, none⟩ = some (.int .i64 0) := blk_cell BK.out 0; have z0_ := blk_frozen BK.out 0; have c1_ : w'.cell? ⟨w.heap.size, 1, none⟩ = some (.int .i64 0) := blk_cell BK.out 1; have z1_ := blk_frozen BK.out 1; have lt_ : w.heap.size < w'.heap.size := blk_lt BK.out; have ne_ : ¬ w.heap.size = w'.heap.size := Nat.ne_of_lt lt_)
    | (go_at_call 66; (with_reducible refine (N3.out _).mono ?_); rintro e w' ⟨rfl, hb⟩; replace BK := Aside0.mk (blk_below BK.out hb); replace HB := Aside0.mk (below_step HB.out hb); clear hb; have c0_ : w'.cell? ⟨w.heap.size, 0, none⟩ = some (.int .i64 0) := blk_cell BK.out 0; have z0_ := blk_frozen BK.out 0; have c1_ : w'.cell? ⟨w.heap.size, 1, none⟩ = some (.int .i64 0) := blk_cell BK.out 1; have z1_ := blk_frozen BK.out 1; have lt_ : w.heap.size < w'.heap.size := blk_lt BK.out; have ne_ : ¬ w.heap.size = w'.heap.size := Nat.ne_of_lt lt_)
    | (go_at_call 11; (with_reducible refine (VL.out _).mono ?_); rintro e w' ⟨rfl, ⟨nd, rfl⟩⟩))
  have DS0 : DS wl sb w.heap.size w'.heap.size k l a (w'.alloc (.cells #[.int .i64 l, .int .i64 a] 50)) := ⟨below_alloc HB.out _, blk_alloc BK.out _, blk_new _ _, (SC.out _ (below_alloc HB.out _))⟩
  replace DS0 := DS0.drewN nd
  have DS1 := DS0.lin
  have DS2 := Aside0.mk DS0
  clear DS0
  generalize (w'.alloc (.cells #[.int .i64 l, .int .i64 a] 50)).drewN nd = wr at *
  go_region_held3 (fun W => W.cell? ⟨sb, 1, none⟩ = some (.int .i64 k) ∧ Aside0 (DS wl sb w.heap.size w'.heap.size k l a W)) (first | exact keepD (Aside0.out (by assumption)) | exact keepD (DS.drew (Aside0.out (by assumption))) | exact keepD (DS.call (Aside0.out (by assumption)) (by assumption)) | exact keepD (DS.call (DS.drew (Aside0.out (by assumption))) (by assumption)))
    ((go_at_call 66; (with_reducible refine (N3.out _).mono ?_); rintro e w' ⟨rfl, hb⟩))
  rename_i hH
  have HD := hH.2
  clear hH hb DS1 DS2
  have c0_ : w'.cell? ⟨w.heap.size, 0, none⟩ = some (.int .i64 0) := blk_cell HD.out.res 0
  have c1_ : w'.cell? ⟨w.heap.size, 1, none⟩ = some (.int .i64 0) := blk_cell HD.out.res 1
  have z0_ := blk_frozen HD.out.res 0
  have z1_ := blk_frozen HD.out.res 1
  have i0_ := blk_cell HD.out.itm 0
  have i1_ := blk_cell HD.out.itm 1
  simp only [List.getElem?_toArray, List.getElem?_cons_zero, List.getElem?_cons_succ] at i0_ i1_
  have HB2 := Aside0.mk HD.out.bel
  go_wp2
  have hlt_ := blk_lt BK.out
  exact bodyPost_ret (v := .tuple #[.agg #[.int .i64 l, .int .i64 a], .nilIface]) (by simp [results, Tryd.results52, go_sem, c0_, c1_, lt_, ne_]) rfl ⟨rfl, by repeat (first | exact HB2.out | apply pw_below_drewN | apply below_alloc | refine below_set ?_ HLS.out | (refine below_set ?_ (Nat.le_trans HLS.out ?_); focus (simp; omega)))⟩
set_option maxRecDepth 100000 in
theorem detail_order (w0 w : World) (sb : Nat) (A : Option Addr) (c : Nat) (xs t r : List Int) (k l a p : Int) (b : Bool) (h : In w0 w sb A c xs k) (hx : nextP xs 68 23 = some (t, r)) (hl : fieldP t 5 6 = l) (ha : fieldP t 12 12 = a) (hp : fieldP t 1 4 = p) (hv : DDigits.validB (strOfNums ((t.drop 5).take 7)) = b) (hz : l ≠ 0) (hz2 : a ≠ 0) (hb : b = true) (hpk : p ≠ k) :
    Calls Tryd.prog 52 #[.pointer (some ⟨sb, 0, none⟩)] w fun e w' => e = .returned (.tuple #[.agg #[.int .i64 0, .int .i64 0], .iface 73 (.int .i64 202)]) ∧ Below (left sb A c xs r w).heap.size (left sb A c xs r w) w' := by
  have HN := Aside0.mk (next_W (n := 23) h 23 rfl (by omega) hx)
  obtain ⟨_, _, _, htl, _, t', ht, hdg⟩ := nextP_some hx
  have N1 := num_W t t' 68 ht hdg 5 6 (by omega) (by omega) (by omega) (by omega) 5 6 rfl rfl
  have N2 := num_W t t' 68 ht hdg 12 12 (by omega) (by omega) (by omega) (by omega) 12 12 rfl rfl
  have N3 := num_W t t' 68 ht hdg 1 4 (by omega) (by omega) (by omega) (by omega) 1 4 rfl rfl
  rw [hl] at N1
  rw [ha] at N2
  rw [hp] at N3
  have hs1 : (left sb A c xs r w).cell? ⟨sb, 1, none⟩ = some (.int .i64 k) := blk_cell (blk_set h.blk 0 _) 1
  have hsl : sb < (left sb A c xs r w).heap.size := by rw [left_size]; exact h.lt
  have SC : Aside0 (∀ W, Below (left sb A c xs r w).heap.size (left sb A c xs r w) W → W.cell? ⟨sb, 1, none⟩ = some (.int .i64 k)) := ⟨fun W hb => (hb.cell (p := ⟨sb, 1, none⟩) hsl).trans hs1⟩
  have hss : (strOfNums ((t.drop 5).take 7)).size = 7 := by rw [← bytesOf_length, bytesOf_str _ (fun x hx => by
    have := field_dig ht hdg 5 7 (by omega)
    rw [List.all_eq_true] at this
    have := this x hx
    simp only [isDig, decide_eq_true_eq] at this; omega), List.length_take, List.length_drop]; omega
  have VL : Aside0 (∀ W, Calls Tryd.prog 11 #[.string (strOfNums ((t.drop 5).take 7))] W fun e w' => e = .returned (.bool b) ∧ Drawn0 W w') := ⟨fun W => by rw [← hv]; exact DDigits.valid_calls _ (by omega) W⟩
  have hex : (strOfNums t).extract 5 12 = strOfNums ((t.drop 5).take 7) := extract_str t 5 12
  have hsz : (strOfNums t).size = 24 := by
    have h2 := congrArg List.length (strOf_toList t)
    rw [Lib.bytesOf, List.length_map, htl] at h2
    exact h2
  have HLS := Aside0.mk (Nat.le_of_eq (left_size sb A c xs r w))
  clear h hx hl ha hp hv ht hdg htl hs1 hsl hss
  subst hb
  have bl : (l == 0) = false := by rw [beq_eq_false_iff_ne]; exact hz
  have ba : (a == 0) = false := by rw [beq_eq_false_iff_ne]; exact hz2
  have bp : (p != k) = true := by simp [hpk]
  clear hz hz2 hpk
  generalize strOfNums ((t.drop 5).take 7) = u at *
  generalize strOfNums t = s at *
  generalize left sb A c xs r w = wl at *
  go_enter Tryd.func52, Tryd.ntmps52
  go_wp2_with (first
    | (go_at_call 64; (with_reducible refine (HN.out _ ?_).mono ?_); (repeat (first | exact Below.refl _ _ | apply pw_below_drewN | apply below_alloc)); rintro e w' ⟨rfl, hb, hk⟩; have HB := Aside0.mk hb; have BK := Aside0.mk (hk _ _ (Nat.le_refl _) (blk_new _ _)); clear hb hk)
    | (go_at_call 66; (with_reducible refine (N1.out _).mono ?_); rintro e w' ⟨rfl, hb⟩; replace BK := Aside0.mk (blk_below BK.out hb); replace HB := Aside0.mk (below_step HB.out hb); clear hb; have c0_ : w'.cell? ⟨w.heap.size, 0, none⟩ = some (.int .i64 0) := blk_cell BK.out 0; have z0_ := blk_frozen BK.out 0; have c1_ : w'.cell? ⟨w.heap.size, 1, none⟩ = some (.int .i64 0) := blk_cell BK.out 1; have z1_ := blk_frozen BK.out 1; have lt_ : w.heap.size < w'.heap.size := blk_lt BK.out; have ne_ : ¬ w.heap.size = w'.heap.size := Nat.ne_of_lt lt_)
    | (go_at_call 66; (with_reducible refine (N2.out _).mono ?_); rintro e w' ⟨rfl, hb⟩; replace BK := Aside0.mk (blk_below BK.out hb); replace HB := Aside0.mk (below_step HB.out hb); clear hb; have c0_ : w'.cell? ⟨w.heap.size, 0, none⟩ = some (.int .i64 0) := blk_cell BK.out 0; have z0_ := blk_frozen BK.out 0; have c1_ : w'.cell? ⟨w.heap.size, 1, none⟩ = some (.int .i64 0) := blk_cell BK.out 1; have z1_ := blk_frozen BK.out 1; have lt_ : w.heap.size < w'.heap.size := blk_lt BK.out; have ne_ : ¬ w.heap.size = w'.heap.size := Nat.ne_of_lt lt_)
    | (go_at_call 66; (with_reducible refine (N3.out _).mono ?_); rintro e w' ⟨rfl, hb⟩; replace BK := Aside0.mk (blk_below BK.out hb); replace HB := Aside0.mk (below_step HB.out hb); clear hb; have c0_ : w'.cell? ⟨w.heap.size, 0, none⟩ = some (.int .i64 0) := blk_cell BK.out 0; have z0_ := blk_frozen BK.out 0; have c1_ : w'.cell? ⟨w.heap.size, 1, none⟩ = some (.int .i64 0) := blk_cell BK.out 1; have z1_ := blk_frozen BK.out 1; have lt_ : w.heap.size < w'.heap.size := blk_lt BK.out; have ne_ : ¬ w.heap.size = w'.heap.size := Nat.ne_of_lt lt_)
    | (go_at_call 11; (with_reducible refine (VL.out _).mono ?_); rintro e w' ⟨rfl, ⟨nd, rfl⟩⟩))
  have DS0 : DS wl sb w.heap.size w'.heap.size k l a (w'.alloc (.cells #[.int .i64 l, .int .i64 a] 50)) := ⟨below_alloc HB.out _, blk_alloc BK.out _, blk_new _ _, (SC.out _ (below_alloc HB.out _))⟩
  replace DS0 := DS0.drewN nd
  have DS1 := DS0.lin
  have DS2 := Aside0.mk DS0
  clear DS0
  generalize (w'.alloc (.cells #[.int .i64 l, .int .i64 a] 50)).drewN nd = wr at *
  go_region_held3 (fun W => W.cell? ⟨sb, 1, none⟩ = some (.int .i64 k) ∧ Aside0 (DS wl sb w.heap.size w'.heap.size k l a W)) (first | exact keepD (Aside0.out (by assumption)) | exact keepD (DS.drew (Aside0.out (by assumption))) | exact keepD (DS.call (Aside0.out (by assumption)) (by assumption)) | exact keepD (DS.call (DS.drew (Aside0.out (by assumption))) (by assumption)))
    ((go_at_call 66; (with_reducible refine (N3.out _).mono ?_); rintro e w' ⟨rfl, hb⟩))
  rename_i hH
  have HD := hH.2
  clear hH hb DS1 DS2
  have c0_ : w'.cell? ⟨w.heap.size, 0, none⟩ = some (.int .i64 0) := blk_cell HD.out.res 0
  have c1_ : w'.cell? ⟨w.heap.size, 1, none⟩ = some (.int .i64 0) := blk_cell HD.out.res 1
  have z0_ := blk_frozen HD.out.res 0
  have z1_ := blk_frozen HD.out.res 1
  have i0_ := blk_cell HD.out.itm 0
  have i1_ := blk_cell HD.out.itm 1
  simp only [List.getElem?_toArray, List.getElem?_cons_zero, List.getElem?_cons_succ] at i0_ i1_
  have HB2 := Aside0.mk HD.out.bel
  go_wp2
  have hlt_ := blk_lt BK.out
  exact bodyPost_ret (v := .tuple #[.agg #[.int .i64 0, .int .i64 0], .iface 73 (.int .i64 202)]) (by simp [results, Tryd.results52, go_sem, c0_, c1_, lt_, ne_]) rfl ⟨rfl, by repeat (first | exact HB2.out | apply pw_below_drewN | apply below_alloc | refine below_set ?_ HLS.out | (refine below_set ?_ (Nat.le_trans HLS.out ?_); focus (simp; omega)))⟩
end Go.Proofs.YtkjdmbbaacjpmaaDoor.Reader
end
section
namespace Go.Proofs.YtkjdmbbaacjpmaaDoor.Reader
open Go.RowKit Go.Proofs.YtkjdmbbaacjpmaaDoor.Scan Go.Proofs.YtkjdmbbaacjpmaaDoorW.PrintWords Go.Proofs.YtkjdmbbaacjpmaaDoorW.PrintLast
set_option linter.unusedVariables false
set_option linter.unusedSimpArgs false
set_option maxRecDepth 100000 in
theorem trailer_no (w0 w : World) (sb : Nat) (A : Option Addr) (c : Nat) (xs : List Int) (k : Int) (v : Value) (h : In w0 w sb A c xs k) (hx : nextP xs 84 30 = none) :
    Calls Tryd.prog 53 #[.pointer (some ⟨sb, 0, none⟩), v] w fun e w' => e = .returned (.iface 73 (.int .i64 200)) ∧ Drawn0 w w' := by
  have HN : Aside0 (∀ W, Below w.heap.size w W → Calls Tryd.prog 64 #[.pointer (some ⟨sb, 0, none⟩), .int .u8 84, .int .i64 30] W fun e w' => e = .returned (.tuple #[.string ⟨#[]⟩, .iface 73 (.int .i64 200)]) ∧ Drawn0 W w') :=
    ⟨fun W hb => next_no sb A c xs 84 30 W (h.step hb).here (h.step hb).s0 (by omega) hx⟩
  clear h hx
  go_enter Tryd.func53, Tryd.ntmps53
  go_wp2_with (first | (go_at_call 64; (with_reducible refine (HN.out _ ?_).mono ?_); (repeat (first | exact Below.refl _ _ | apply pw_below_drewN | apply below_alloc)); rintro e w' ⟨rfl, ⟨nd, rfl⟩⟩))
  go_ret
  exact ⟨rfl, ⟨nd, rfl⟩⟩
set_option maxRecDepth 100000 in
theorem trailer_ok (w0 w : World) (sb : Nat) (A : Option Addr) (c : Nat) (xs t r : List Int) (k p1 p2 p3 s1 s2 : Int) (Ai : Option Addr) (ci kt : Nat) (items : List R.S50) (h : In w0 w sb A c xs k) (hx : nextP xs 84 30 = some (t, r)) (h1 : fieldP t 1 4 = p1) (h2 : fieldP t 5 16 = p2) (h3 : fieldP t 21 10 = p3)
    (hI : Kd.C R.k50 (left sb A c xs r w) Ai items.length items) (hci : items.length ≤ ci) (hil : items.length ≤ 100000) (ht : R.lockbox_totals.f kt items = some (s1, s2)) (e1 : p1 = items.length) (e2 : s1 = p2) (e3 : s2 = p3) :
    Calls Tryd.prog 53 #[.pointer (some ⟨sb, 0, none⟩), .slice Ai items.length ci] w fun e w' => e = .returned (.nilIface) ∧ Below (left sb A c xs r w).heap.size (left sb A c xs r w) w' := by
  have HN := Aside0.mk (next_W (n := 30) h 30 rfl (by omega) hx)
  obtain ⟨_, _, _, htl, _, t', hht, hdg⟩ := nextP_some hx
  have N1 := num_W t t' 84 hht hdg 1 4 (by omega) (by omega) (by omega) (by omega) 1 4 rfl rfl
  have N2 := num_W t t' 84 hht hdg 5 16 (by omega) (by omega) (by omega) (by omega) 5 16 rfl rfl
  have N3 := num_W t t' 84 hht hdg 21 10 (by omega) (by omega) (by omega) (by omega) 21 10 rfl rfl
  rw [h1] at N1
  rw [h2] at N2
  rw [h3] at N3
  have NT : Aside0 (∀ W, Below (left sb A c xs r w).heap.size (left sb A c xs r w) W → Calls Tryd.prog 35 #[.slice Ai items.length ci] W fun e w' => e = .returned (.tuple #[.int .i64 s1, .int .i64 s2]) ∧ Below W.heap.size W w') :=
    ⟨fun W hb => R.lockbox_totals.calls kt Ai ci items s1 s2 W (Kd.C_below hI hb) hci ht⟩
  have HLS := Aside0.mk (Nat.le_of_eq (left_size sb A c xs r w))
  clear h hx hht hdg htl h1 h2 h3 hI ht
  generalize hLen : items.length = nI at *
  subst e1 e2 e3
  clear hLen
  generalize strOfNums t = s at *
  generalize left sb A c xs r w = wl at *
  go_enter Tryd.func53, Tryd.ntmps53
  go_wp2_with (first
    | (go_at_call 64; (with_reducible refine (HN.out _ ?_).mono ?_); (repeat (first | exact Below.refl _ _ | apply pw_below_drewN | apply below_alloc)); rintro e w' ⟨rfl, hb, hk⟩; have HB := Aside0.mk hb; clear hb hk)
    | (go_at_call 35; (with_reducible refine (NT.out _ HB.out).mono ?_); rintro e w' ⟨rfl, hb⟩; replace HB := Aside0.mk (below_step HB.out hb); clear hb)
    | (go_at_call 66; (with_reducible refine (N1.out _).mono ?_); rintro e w' ⟨rfl, hb⟩; replace HB := Aside0.mk (below_step HB.out hb); clear hb)
    | (go_at_call 66; (with_reducible refine (N2.out _).mono ?_); rintro e w' ⟨rfl, hb⟩; replace HB := Aside0.mk (below_step HB.out hb); clear hb)
    | (go_at_call 66; (with_reducible refine (N3.out _).mono ?_); rintro e w' ⟨rfl, hb⟩; replace HB := Aside0.mk (below_step HB.out hb); clear hb))
  go_ret
  exact ⟨rfl, HB.out⟩
set_option maxRecDepth 100000 in
theorem trailer_1 (w0 w : World) (sb : Nat) (A : Option Addr) (c : Nat) (xs t r : List Int) (k p1 p2 p3 s1 s2 : Int) (Ai : Option Addr) (ci kt : Nat) (items : List R.S50) (h : In w0 w sb A c xs k) (hx : nextP xs 84 30 = some (t, r)) (h1 : fieldP t 1 4 = p1) (h2 : fieldP t 5 16 = p2) (h3 : fieldP t 21 10 = p3)
    (hI : Kd.C R.k50 (left sb A c xs r w) Ai items.length items) (hci : items.length ≤ ci) (hil : items.length ≤ 100000) (ht : R.lockbox_totals.f kt items = some (s1, s2)) (e1 : p1 ≠ items.length) :
    Calls Tryd.prog 53 #[.pointer (some ⟨sb, 0, none⟩), .slice Ai items.length ci] w fun e w' => e = .returned (.iface 73 (.int .i64 203)) ∧ Below (left sb A c xs r w).heap.size (left sb A c xs r w) w' := by
  have HN := Aside0.mk (next_W (n := 30) h 30 rfl (by omega) hx)
  obtain ⟨_, _, _, htl, _, t', hht, hdg⟩ := nextP_some hx
  have N1 := num_W t t' 84 hht hdg 1 4 (by omega) (by omega) (by omega) (by omega) 1 4 rfl rfl
  have N2 := num_W t t' 84 hht hdg 5 16 (by omega) (by omega) (by omega) (by omega) 5 16 rfl rfl
  have N3 := num_W t t' 84 hht hdg 21 10 (by omega) (by omega) (by omega) (by omega) 21 10 rfl rfl
  rw [h1] at N1
  rw [h2] at N2
  rw [h3] at N3
  have NT : Aside0 (∀ W, Below (left sb A c xs r w).heap.size (left sb A c xs r w) W → Calls Tryd.prog 35 #[.slice Ai items.length ci] W fun e w' => e = .returned (.tuple #[.int .i64 s1, .int .i64 s2]) ∧ Below W.heap.size W w') :=
    ⟨fun W hb => R.lockbox_totals.calls kt Ai ci items s1 s2 W (Kd.C_below hI hb) hci ht⟩
  have HLS := Aside0.mk (Nat.le_of_eq (left_size sb A c xs r w))
  clear h hx hht hdg htl h1 h2 h3 hI ht
  generalize hLen : items.length = nI at *
  have b1 : (p1 != (nI : Int)) = true := by simp [e1]
  clear e1
  clear hLen
  generalize strOfNums t = s at *
  generalize left sb A c xs r w = wl at *
  go_enter Tryd.func53, Tryd.ntmps53
  go_wp2_with (first
    | (go_at_call 64; (with_reducible refine (HN.out _ ?_).mono ?_); (repeat (first | exact Below.refl _ _ | apply pw_below_drewN | apply below_alloc)); rintro e w' ⟨rfl, hb, hk⟩; have HB := Aside0.mk hb; clear hb hk)
    | (go_at_call 35; (with_reducible refine (NT.out _ HB.out).mono ?_); rintro e w' ⟨rfl, hb⟩; replace HB := Aside0.mk (below_step HB.out hb); clear hb)
    | (go_at_call 66; (with_reducible refine (N1.out _).mono ?_); rintro e w' ⟨rfl, hb⟩; replace HB := Aside0.mk (below_step HB.out hb); clear hb)
    | (go_at_call 66; (with_reducible refine (N2.out _).mono ?_); rintro e w' ⟨rfl, hb⟩; replace HB := Aside0.mk (below_step HB.out hb); clear hb)
    | (go_at_call 66; (with_reducible refine (N3.out _).mono ?_); rintro e w' ⟨rfl, hb⟩; replace HB := Aside0.mk (below_step HB.out hb); clear hb))
  go_ret
  exact ⟨rfl, HB.out⟩
set_option maxRecDepth 100000 in
theorem trailer_2 (w0 w : World) (sb : Nat) (A : Option Addr) (c : Nat) (xs t r : List Int) (k p1 p2 p3 s1 s2 : Int) (Ai : Option Addr) (ci kt : Nat) (items : List R.S50) (h : In w0 w sb A c xs k) (hx : nextP xs 84 30 = some (t, r)) (h1 : fieldP t 1 4 = p1) (h2 : fieldP t 5 16 = p2) (h3 : fieldP t 21 10 = p3)
    (hI : Kd.C R.k50 (left sb A c xs r w) Ai items.length items) (hci : items.length ≤ ci) (hil : items.length ≤ 100000) (ht : R.lockbox_totals.f kt items = some (s1, s2)) (e1 : p1 = items.length) (e2 : p2 ≠ s1) :
    Calls Tryd.prog 53 #[.pointer (some ⟨sb, 0, none⟩), .slice Ai items.length ci] w fun e w' => e = .returned (.iface 73 (.int .i64 203)) ∧ Below (left sb A c xs r w).heap.size (left sb A c xs r w) w' := by
  have HN := Aside0.mk (next_W (n := 30) h 30 rfl (by omega) hx)
  obtain ⟨_, _, _, htl, _, t', hht, hdg⟩ := nextP_some hx
  have N1 := num_W t t' 84 hht hdg 1 4 (by omega) (by omega) (by omega) (by omega) 1 4 rfl rfl
  have N2 := num_W t t' 84 hht hdg 5 16 (by omega) (by omega) (by omega) (by omega) 5 16 rfl rfl
  have N3 := num_W t t' 84 hht hdg 21 10 (by omega) (by omega) (by omega) (by omega) 21 10 rfl rfl
  rw [h1] at N1
  rw [h2] at N2
  rw [h3] at N3
  have NT : Aside0 (∀ W, Below (left sb A c xs r w).heap.size (left sb A c xs r w) W → Calls Tryd.prog 35 #[.slice Ai items.length ci] W fun e w' => e = .returned (.tuple #[.int .i64 s1, .int .i64 s2]) ∧ Below W.heap.size W w') :=
    ⟨fun W hb => R.lockbox_totals.calls kt Ai ci items s1 s2 W (Kd.C_below hI hb) hci ht⟩
  have HLS := Aside0.mk (Nat.le_of_eq (left_size sb A c xs r w))
  clear h hx hht hdg htl h1 h2 h3 hI ht
  generalize hLen : items.length = nI at *
  subst e1
  have b2 : (p2 != s1) = true := by simp [e2]
  clear e2
  clear hLen
  generalize strOfNums t = s at *
  generalize left sb A c xs r w = wl at *
  go_enter Tryd.func53, Tryd.ntmps53
  go_wp2_with (first
    | (go_at_call 64; (with_reducible refine (HN.out _ ?_).mono ?_); (repeat (first | exact Below.refl _ _ | apply pw_below_drewN | apply below_alloc)); rintro e w' ⟨rfl, hb, hk⟩; have HB := Aside0.mk hb; clear hb hk)
    | (go_at_call 35; (with_reducible refine (NT.out _ HB.out).mono ?_); rintro e w' ⟨rfl, hb⟩; replace HB := Aside0.mk (below_step HB.out hb); clear hb)
    | (go_at_call 66; (with_reducible refine (N1.out _).mono ?_); rintro e w' ⟨rfl, hb⟩; replace HB := Aside0.mk (below_step HB.out hb); clear hb)
    | (go_at_call 66; (with_reducible refine (N2.out _).mono ?_); rintro e w' ⟨rfl, hb⟩; replace HB := Aside0.mk (below_step HB.out hb); clear hb)
    | (go_at_call 66; (with_reducible refine (N3.out _).mono ?_); rintro e w' ⟨rfl, hb⟩; replace HB := Aside0.mk (below_step HB.out hb); clear hb))
  go_ret
  exact ⟨rfl, HB.out⟩
set_option maxRecDepth 100000 in
theorem trailer_3 (w0 w : World) (sb : Nat) (A : Option Addr) (c : Nat) (xs t r : List Int) (k p1 p2 p3 s1 s2 : Int) (Ai : Option Addr) (ci kt : Nat) (items : List R.S50) (h : In w0 w sb A c xs k) (hx : nextP xs 84 30 = some (t, r)) (h1 : fieldP t 1 4 = p1) (h2 : fieldP t 5 16 = p2) (h3 : fieldP t 21 10 = p3)
    (hI : Kd.C R.k50 (left sb A c xs r w) Ai items.length items) (hci : items.length ≤ ci) (hil : items.length ≤ 100000) (ht : R.lockbox_totals.f kt items = some (s1, s2)) (e1 : p1 = items.length) (e2 : s1 = p2) (e3 : p3 ≠ s2) :
    Calls Tryd.prog 53 #[.pointer (some ⟨sb, 0, none⟩), .slice Ai items.length ci] w fun e w' => e = .returned (.iface 73 (.int .i64 203)) ∧ Below (left sb A c xs r w).heap.size (left sb A c xs r w) w' := by
  have HN := Aside0.mk (next_W (n := 30) h 30 rfl (by omega) hx)
  obtain ⟨_, _, _, htl, _, t', hht, hdg⟩ := nextP_some hx
  have N1 := num_W t t' 84 hht hdg 1 4 (by omega) (by omega) (by omega) (by omega) 1 4 rfl rfl
  have N2 := num_W t t' 84 hht hdg 5 16 (by omega) (by omega) (by omega) (by omega) 5 16 rfl rfl
  have N3 := num_W t t' 84 hht hdg 21 10 (by omega) (by omega) (by omega) (by omega) 21 10 rfl rfl
  rw [h1] at N1
  rw [h2] at N2
  rw [h3] at N3
  have NT : Aside0 (∀ W, Below (left sb A c xs r w).heap.size (left sb A c xs r w) W → Calls Tryd.prog 35 #[.slice Ai items.length ci] W fun e w' => e = .returned (.tuple #[.int .i64 s1, .int .i64 s2]) ∧ Below W.heap.size W w') :=
    ⟨fun W hb => R.lockbox_totals.calls kt Ai ci items s1 s2 W (Kd.C_below hI hb) hci ht⟩
  have HLS := Aside0.mk (Nat.le_of_eq (left_size sb A c xs r w))
  clear h hx hht hdg htl h1 h2 h3 hI ht
  generalize hLen : items.length = nI at *
  subst e1 e2
  have b3 : (p3 != s2) = true := by simp [e3]
  clear e3
  clear hLen
  generalize strOfNums t = s at *
  generalize left sb A c xs r w = wl at *
  go_enter Tryd.func53, Tryd.ntmps53
  go_wp2_with (first
    | (go_at_call 64; (with_reducible refine (HN.out _ ?_).mono ?_); (repeat (first | exact Below.refl _ _ | apply pw_below_drewN | apply below_alloc)); rintro e w' ⟨rfl, hb, hk⟩; have HB := Aside0.mk hb; clear hb hk)
    | (go_at_call 35; (with_reducible refine (NT.out _ HB.out).mono ?_); rintro e w' ⟨rfl, hb⟩; replace HB := Aside0.mk (below_step HB.out hb); clear hb)
    | (go_at_call 66; (with_reducible refine (N1.out _).mono ?_); rintro e w' ⟨rfl, hb⟩; replace HB := Aside0.mk (below_step HB.out hb); clear hb)
    | (go_at_call 66; (with_reducible refine (N2.out _).mono ?_); rintro e w' ⟨rfl, hb⟩; replace HB := Aside0.mk (below_step HB.out hb); clear hb)
    | (go_at_call 66; (with_reducible refine (N3.out _).mono ?_); rintro e w' ⟨rfl, hb⟩; replace HB := Aside0.mk (below_step HB.out hb); clear hb))
  go_ret
  exact ⟨rfl, HB.out⟩
end Go.Proofs.YtkjdmbbaacjpmaaDoor.Reader
end
section
namespace Go.Proofs.YtkjdmbbaacjpmaaDoor.Reader
open Go.RowKit Go.Proofs.YtkjdmbbaacjpmaaDoor.Scan Go.Proofs.YtkjdmbbaacjpmaaDoorW.PrintWords Go.Proofs.YtkjdmbbaacjpmaaDoorW.PrintLast Go.Proofs.YtkjdmbbaacjpmaaDoor.R
set_option linter.unusedVariables false
set_option linter.unusedSimpArgs false
def totF : Int × Int → List S50 → Int × Int
  | p, [] => p
  | p, x :: t => totF (wrap64 (p.1 + x.f1), Int.tmod (wrap64 (p.2 + x.f0)) 10000000000) t
def totP (l : List S50) : Int × Int := totF (0, 0) l
def headP (xs : List Int) : Option ((Int × Int) × List Int) :=
  (nextP xs 72 14).bind fun tr => if (headD tr.1).2 = true ∧ fieldP tr.1 9 6 ≠ 0 then some (((headD tr.1).1, fieldP tr.1 9 6), tr.2) else none
def detP (xs : List Int) (k : Int) : Except Int (S50 × List Int) :=
  match nextP xs 68 23 with
  | none => .error 200
  | some (t, r) => if fieldP t 5 6 = 0 ∨ fieldP t 12 12 = 0 then .error 200 else if DDigits.validB (strOfNums ((t.drop 5).take 7)) = false then .error 201 else if fieldP t 1 4 ≠ k then .error 202 else .ok (⟨fieldP t 5 6, fieldP t 12 12⟩, r)
def trlP (xs : List Int) (l : List S50) : Except Int (List Int) :=
  match nextP xs 84 30 with
  | none => .error 200
  | some (t, r) => if fieldP t 1 4 = l.length ∧ (totP l).1 = fieldP t 5 16 ∧ (totP l).2 = fieldP t 21 10 then .ok r else .error 203
def brk (xs : List Int) (k : Int) : Bool := decide (9999 < k) || (decide (1 < k) && (xs.head? == some 84))
def endP (xs : List Int) (k : Int) (l : List S50) : Except (Int × Int) (List S50) :=
  match trlP xs l with
  | .error c => .error (c, k)
  | .ok r => if r = [] then .ok l else .error (200, k + 1)
def loopP : Nat → List Int → Int → List S50 → Except (Int × Int) (List S50)
  | 0, _, _, _ => .error (0, 0)
  | f + 1, xs, k, l => if brk xs k = true then endP xs k l else match detP xs k with
    | .error c => .error (c, k)
    | .ok (x, r) => loopP f r (k + 1) (l ++ [x])
def readP (xs : List Int) : Except (Int × Int) ((Int × Int) × List S50) :=
  match headP xs with
  | none => .error (200, 0)
  | some (dn, r) => (loopP 10001 r 1 []).map fun l => (dn, l)
theorem totals_loop (l : List S50) (hl : l.length ≤ 100000) : ∀ (d i : Nat), i + d = l.length → ∀ (p : Int × Int) (k : Nat), d < k →
    lockbox_totals.l0 k p.1 p.2 l (l.length : Int) i = some (totF p (l.drop i)) := by
  intro d
  induction d with
  | zero =>
    intro i hi p k hk
    obtain ⟨k, rfl⟩ : ∃ m, k = m + 1 := ⟨k - 1, by omega⟩
    simp only [lockbox_totals.l0]
    rw [if_neg (by omega), List.drop_eq_nil_of_le (by omega)]
    rfl
  | succ d ih =>
    intro i hi p k hk
    obtain ⟨k, rfl⟩ : ∃ m, k = m + 1 := ⟨k - 1, by omega⟩
    have hlt : i < l.length := by omega
    have hw : wrap64 ((i : Int) + 1) = ((i + 1 : Nat) : Int) := by unfold wrap64; omega
    simp only [lockbox_totals.l0]
    rw [if_pos (by omega), if_pos (by omega), if_pos (by omega), hw]
    have := ih (i + 1) (by omega) (wrap64 (p.1 + (rd_T50 l i).f1), Int.tmod (wrap64 (p.2 + (rd_T50 l i).f0)) 10000000000) k (by omega)
    simp only at this
    rw [this]
    have hr : rd_T50 l i = l[i] := by unfold rd_T50; rw [Int.toNat_natCast, List.getD_eq_getElem?_getD, List.getElem?_eq_getElem hlt]; rfl
    rw [hr, List.drop_eq_getElem_cons hlt]
    rfl
theorem totals_run (l : List S50) (hl : l.length ≤ 100000) : lockbox_totals.f (l.length + 1) l = some ((totP l).1, (totP l).2) := by
  have := totals_loop l hl l.length 0 (by omega) (0, 0) (l.length + 1) (by omega)
  simpa [lockbox_totals.f, totP] using this
theorem At.left {w : World} {A : Option Addr} {c : Nat} {xs : List Int} (h : At w A c xs) (he : eol xs < xs.length) : At w (cutA A c (eol xs)) (c - (eol xs + 1)) (xs.drop (eol xs + 1)) := by
  have hc := h.cap
  have hl : (xs.drop (eol xs + 1)).length = xs.length - (eol xs + 1) := List.length_drop
  refine ⟨by rw [hl]; omega, by have := h.big; omega, fun x hx => h.byt x (List.mem_of_mem_drop hx), ?_, ?_⟩
  · have := Kd.C_drop (m := eol xs + 1) (c := c) h.C (by omega) hc
    rw [hl]
    unfold cutA
    simpa [show (Kd.int .u8).sz = 1 from rfl] using this
  · unfold cutA
    rcases h.adr with ⟨rfl, rfl⟩ | ⟨b, o, rfl⟩
    · omega
    · refine .inr ?_
      split
      · exact ⟨b, o, rfl⟩
      · exact ⟨b, o + (eol xs + 1), rfl⟩
structure LS (w0 W : World) (rb sb bb : Nat) (A : Option Addr) (c : Nat) (xs : List Int) (k d n : Int) (v : Value) (l : List S50) : Prop where
  inn : In w0 W sb A c xs k
  res : W.heap[rb]? = some (.cells #[.int .i64 0, .int .i64 0, .slice none 0 0] 32 (0, 0))
  bat : W.heap[bb]? = some (.cells #[.int .i64 d, .int .i64 n, v] 32 (0, 0))
  row : Kd.R k50 50 W w0.heap.size (fun _ => True) v l
  rge : w0.heap.size ≤ rb
  bge : w0.heap.size ≤ bb
  ne1 : rb ≠ sb
  ne2 : bb ≠ sb
  ne3 : rb ≠ bb
section
variable {w0 W W2 : World} {rb sb bb : Nat} {A : Option Addr} {c : Nat} {xs r : List Int} {k d n : Int} {v : Value} {l : List S50}
theorem LS.below (h : LS w0 W rb sb bb A c xs k d n v l) (hb : Below W.heap.size W W2) : LS w0 W2 rb sb bb A c xs k d n v l :=
  ⟨h.inn.step hb, blk_below h.res hb, blk_below h.bat hb, Kd.R_below h.row hb, h.rge, h.bge, h.ne1, h.ne2, h.ne3⟩
theorem LS.drewN (h : LS w0 W rb sb bb A c xs k d n v l) (m : Nat) : LS w0 (W.drewN m) rb sb bb A c xs k d n v l := h.below (pw_below_drewN (Below.refl _ _) m)
theorem LS.drew (h : LS w0 W rb sb bb A c xs k d n v l) : LS w0 W.drew rb sb bb A c xs k d n v l := h.below (Below.refl _ _).drew
theorem LS.alloc (h : LS w0 W rb sb bb A c xs k d n v l) (o : Obj) : LS w0 (W.alloc o) rb sb bb A c xs k d n v l := h.below (below_alloc (Below.refl _ _) o)
theorem LS.left (h : LS w0 W rb sb bb A c xs k d n v l) (he : eol xs < xs.length) (hr : r = xs.drop (eol xs + 1)) :
    LS w0 (left sb A c xs r W) rb sb bb (cutA A c (eol xs)) (c - (eol xs + 1)) r k d n v l := by
  subst hr
  refine ⟨⟨h.inn.at_.left he, h.inn.tab, below_set h.inn.bel h.inn.ge, h.inn.ge, ?_⟩, ?_, ?_, ?_, h.rge, h.bge, h.ne1, h.ne2, h.ne3⟩
  · exact blk_put h.inn.blk 0 _ rfl
  · exact blk_far h.res h.ne1 _
  · exact blk_far h.bat h.ne2 _
  · exact Kd.R_set h.row h.inn.blk (by decide) 0 _
theorem LS.taken (h : LS w0 W rb sb bb A c xs k d n v l) (he : eol xs < xs.length) (hr : r = xs.drop (eol xs + 1)) (hb : Below (Reader.left sb A c xs r W).heap.size (Reader.left sb A c xs r W) W2) :
    LS w0 W2 rb sb bb (cutA A c (eol xs)) (c - (eol xs + 1)) r k d n v l := (h.left he hr).below hb
theorem LS.line (h : LS w0 W rb sb bb A c xs k d n v l) (j : Int) : LS w0 (W.setCell ⟨sb, 1, none⟩ (.int .i64 j)) rb sb bb A c xs j d n v l :=
  ⟨⟨h.inn.at_, h.inn.tab, below_set h.inn.bel h.inn.ge, h.inn.ge, blk_put h.inn.blk 1 _ rfl⟩, blk_far h.res h.ne1 _, blk_far h.bat h.ne2 _, Kd.R_set h.row h.inn.blk (by decide) 1 _, h.rge, h.bge, h.ne1, h.ne2, h.ne3⟩
theorem LS.app (h : LS w0 W rb sb bb A c xs k d n v l) {v1 : Value} {l1 : List S50} (hR : Kd.R k50 50 W2 w0.heap.size (fun _ => True) v1 l1) (hB : Below w0.heap.size w0 W2) (hg : W.grownBy W2 v.ownBlock) :
    LS w0 (W2.setCell ⟨bb, 2, none⟩ v1) rb sb bb A c xs k d n v1 l1 := by
  have hs : W2.heap[sb]? = _ := blk_grown h.inn.blk hg (Kd.R_ne h.row h.inn.blk (by decide))
  have hr : W2.heap[rb]? = _ := blk_grown h.res hg (Kd.R_ne h.row h.res (by decide))
  have hb : W2.heap[bb]? = _ := blk_grown h.bat hg (Kd.R_ne h.row h.bat (by decide))
  exact ⟨⟨h.inn.at_, h.inn.tab, below_set hB h.bge, h.inn.ge, blk_far hs (Ne.symm h.ne2) _⟩, blk_far hr h.ne3 _, blk_put hb 2 _ rfl, Kd.R_set hR hb (by decide) 2 _, h.rge, h.bge, h.ne1, h.ne2, h.ne3⟩
end
end Go.Proofs.YtkjdmbbaacjpmaaDoor.Reader
end
section
namespace Go.Proofs.YtkjdmbbaacjpmaaDoor.Reads
open Go.RowKit Go.Proofs.YtkjdmbbaacjpmaaDoor.R Go.Proofs.YtkjdmbbaacjpmaaDoor.Scan Go.Proofs.YtkjdmbbaacjpmaaDoor.Reader Go.Proofs.YtkjdmbbaacjpmaaDoorW.PrintWords
open Go.Proofs.YtkjdmbbaacjpmaaDoor.DDigits (wrN)
theorem wrI {i : Int} (h0 : -1000000000000000000 ≤ i) (h : i ≤ 1000000000000000000) : wrap64 i = i := by unfold wrap64; omega
theorem rdN (l : List Int) (j : Nat) (h : j < l.length) : rd l (j : Int) = l[j] := by
  unfold rd; rw [Int.toNat_natCast, List.getD_eq_getElem?_getD, List.getElem?_eq_getElem h]; rfl
theorem valFrom_append : ∀ (l : List Int) (d a : Int), valFrom a (l ++ [d]) = 10 * valFrom a l + (d - 48)
  | [], d, a => rfl
  | x :: t, d, a => by simp only [List.cons_append, valFrom]; exact valFrom_append t d _
end Go.Proofs.YtkjdmbbaacjpmaaDoor.Reads
end
section
namespace Go.Proofs.YtkjdmbbaacjpmaaDoor.Reads
open Go.RowKit Go.Proofs.YtkjdmbbaacjpmaaDoor.R Go.Proofs.YtkjdmbbaacjpmaaDoor.Scan Go.Proofs.YtkjdmbbaacjpmaaDoor.Reader Go.Proofs.YtkjdmbbaacjpmaaDoor.Cal Go.Proofs.YtkjdmbbaacjpmaaDoorW.PrintWords
open Go.Proofs.YtkjdmbbaacjpmaaDoor.DDigits (wrN)
set_option linter.unusedVariables false
theorem monthLen_in {y m : Int} (hy : 1 ≤ y) (hy' : y ≤ 9999) (hm : 1 ≤ m) (hm' : m ≤ 12) : monthLen y m = mlen y m := by
  unfold monthLen
  rw [if_pos ⟨hy, hy', hm, hm'⟩]
  have hl : C.leapB y = true ↔ (y % 4 = 0 ∧ (y % 100 ≠ 0 ∨ y % 400 = 0)) := by
    unfold C.leapB; rw [decide_eq_true_eq]; omega
  have e : (if m = 2 ∧ C.leapB y = true then (1 : Int) else 0) = if m = 2 then lp y else 0 := by
    unfold lp
    by_cases h2 : m = 2
    · rw [if_pos h2]
      by_cases hb : C.leapB y = true
      · rw [if_pos ⟨h2, hb⟩, if_pos (hl.1 hb)]
      · rw [if_neg (fun h => hb h.2), if_neg (fun h => hb (hl.2 h))]
    · rw [if_neg h2, if_neg (fun h => h2 h.1)]
  rw [e]
  clear e hl
  unfold mlen
  generalize lp y = q
  have : m = 1 ∨ m = 2 ∨ m = 3 ∨ m = 4 ∨ m = 5 ∨ m = 6 ∨ m = 7 ∨ m = 8 ∨ m = 9 ∨ m = 10 ∨ m = 11 ∨ m = 12 := by omega
  rcases this with rfl | rfl | rfl | rfl | rfl | rfl | rfl | rfl | rfl | rfl | rfl | rfl <;> simp [C.aheadTab]
theorem numberOf_eq {y m d : Int} (hy : 1 ≤ y) (hy' : y ≤ 9999) (hm : 1 ≤ m) (hm' : m ≤ 12) : numberOf y m d = dby y + cum y m + d := by
  rw [← CivilPure.startOf_cum hy hy' hm (by omega)]
  unfold numberOf dby C.startOf
  omega
theorem lineOk_dig {t : List Int} {letter : Int} {n : Nat} (h : lineOk t letter n = true) : t.length = n + 1 ∧ ∀ a k : Nat, 1 ≤ a → ((t.drop a).take k).all isDig = true := by
  simp only [lineOk, Bool.and_eq_true, decide_eq_true_eq, beq_iff_eq] at h
  obtain ⟨⟨h1, h2⟩, h3⟩ := h
  refine ⟨h1, fun a k ha => ?_⟩
  rw [List.all_eq_true] at h3 ⊢
  intro x hx
  refine h3 x ?_
  have hx2 := List.mem_of_mem_take hx
  obtain ⟨b, rfl⟩ : ∃ b, a = 1 + b := ⟨a - 1, by omega⟩
  rw [← List.drop_drop] at hx2
  exact List.mem_of_mem_drop hx2
theorem field_range {t : List Int} {a k : Nat} (h : ((t.drop a).take k).all isDig = true) : 0 ≤ fieldP t a k ∧ fieldP t a k < 10 ^ k := by
  have hr := valFrom_range ((t.drop a).take k) 0 (by omega) h
  refine ⟨hr.1, Int.lt_of_lt_of_le hr.2 ?_⟩
  have : ((t.drop a).take k).length ≤ k := by rw [List.length_take]; omega
  have h2 : (10 : Int) ^ ((t.drop a).take k).length ≤ 10 ^ k := by
    have : 10 ^ ((t.drop a).take k).length ≤ 10 ^ k := Nat.pow_le_pow_right (by omega) this
    exact_mod_cast this
  omega
end Go.Proofs.YtkjdmbbaacjpmaaDoor.Reads
end
section
namespace Go.Proofs.YtkjdmbbaacjpmaaDoor.Reader
open Go.RowKit Go.Proofs.YtkjdmbbaacjpmaaDoor.Scan Go.Proofs.YtkjdmbbaacjpmaaDoorW.PrintWords Go.Proofs.YtkjdmbbaacjpmaaDoorW.PrintLast Go.Proofs.YtkjdmbbaacjpmaaDoor.R
set_option linter.unusedVariables false
set_option linter.unusedSimpArgs false
structure ErrW (w0 w : World) (sb : Nat) (k : Int) (w' : World) : Prop where
  bel : Below w0.heap.size w0 w'
  sz : w.heap.size ≤ w'.heap.size
  bes : ∀ j, j < w.heap.size → j ≠ sb → w'.heap[j]? = w.heap[j]?
  lin : w'.cell? ⟨sb, 1, none⟩ = some (.int .i64 k)
section
variable {w0 w w' : World} {sb : Nat} {A : Option Addr} {c : Nat} {xs t r : List Int} {k : Int}
theorem errW_same (h : In w0 w sb A c xs k) (hb : Below w.heap.size w w') : ErrW w0 w sb k w' :=
  ⟨below_step h.bel hb, hb.size, fun j hj _ => hb.block j hj, (h.step hb).s1⟩
theorem errW_left (h : In w0 w sb A c xs k) (hb : Below (left sb A c xs r w).heap.size (left sb A c xs r w) w') : ErrW w0 w sb k w' := by
  have hl := left_size sb A c xs r w
  refine ⟨below_step (below_set h.bel h.ge) hb, by have := hb.size; omega, fun j hj hn => ?_, ?_⟩
  · rw [hb.block j (by omega)]
    exact Below.heap_setCell _ _ _ _ hn
  · exact (hb.cell (p := ⟨sb, 1, none⟩) (by have := h.lt; show sb < _; omega)).trans (blk_cell (blk_put h.blk 0 _ rfl) 1)
theorem header_err (h : In w0 w sb A c xs k) (hx : headP xs = none) :
    Calls Tryd.prog 51 #[.pointer (some ⟨sb, 0, none⟩)] w fun e w' => e = .returned (.tuple #[.agg #[.int .i64 0, .int .i64 0, .slice none 0 0], .iface 73 (.int .i64 200)]) ∧ ErrW w0 w sb k w' := by
  cases hn : nextP xs 72 14 with
  | none => exact (header_no sb A c xs w h.here h.s0 hn).mono fun e w' ⟨h1, h2⟩ => ⟨h1, errW_same h h2⟩
  | some tr =>
    obtain ⟨t, r⟩ := tr
    simp only [headP, hn, Option.bind_some] at hx
    split at hx
    · cases hx
    · next hc =>
      by_cases hb : (headD t).2 = true
      · have hz : fieldP t 9 6 = 0 := Classical.byContradiction fun hne => hc ⟨hb, hne⟩
        exact (header_zero w0 w sb A c xs t r k (headD t).1 _ (headD t).2 h hn rfl rfl hb hz).mono fun e w' ⟨h1, h2⟩ => ⟨h1, errW_left h h2⟩
      · exact (header_out w0 w sb A c xs t r k (headD t).1 _ (headD t).2 h hn rfl rfl (Bool.eq_false_iff.2 hb)).mono fun e w' ⟨h1, h2⟩ => ⟨h1, errW_left h h2⟩
theorem header_suc {d n : Int} (h : In w0 w sb A c xs k) (hx : headP xs = some ((d, n), r)) :
    (eol xs < xs.length ∧ r = xs.drop (eol xs + 1)) ∧ Calls Tryd.prog 51 #[.pointer (some ⟨sb, 0, none⟩)] w fun e w' => e = .returned (.tuple #[.agg #[.int .i64 d, .int .i64 n, .slice none 0 0], .nilIface]) ∧ Below (left sb A c xs r w).heap.size (left sb A c xs r w) w' := by
  cases hn : nextP xs 72 14 with
  | none => simp [headP, hn] at hx
  | some tr =>
    obtain ⟨t, r'⟩ := tr
    simp only [headP, hn, Option.bind_some] at hx
    split at hx
    · next hc =>
      simp only [Option.some.injEq, Prod.mk.injEq] at hx
      obtain ⟨⟨rfl, rfl⟩, rfl⟩ := hx
      obtain ⟨he, -, hr, -⟩ := nextP_some hn
      exact ⟨⟨he, hr⟩, header_ok w0 w sb A c xs t r' k _ _ (headD t).2 h hn rfl rfl hc.1 hc.2⟩
    · cases hx
theorem detail_no (h : In w0 w sb A c xs k) (hx : nextP xs 68 23 = none) :
    Calls Tryd.prog 52 #[.pointer (some ⟨sb, 0, none⟩)] w fun e w' => e = .returned (.tuple #[.agg #[.int .i64 0, .int .i64 0], .iface 73 (.int .i64 200)]) ∧ Below w.heap.size w w' := by
  have HN : Aside0 (∀ W, Below w.heap.size w W → Calls Tryd.prog 64 #[.pointer (some ⟨sb, 0, none⟩), .int .u8 68, .int .i64 23] W fun e w' => e = .returned (.tuple #[.string ⟨#[]⟩, .iface 73 (.int .i64 200)]) ∧ Drawn0 W w') :=
    ⟨fun W hb => next_no sb A c xs 68 23 W (h.step hb).here (h.step hb).s0 (by omega) hx⟩
  clear h hx
  go_enter Tryd.func52, Tryd.ntmps52
  go_wp2_with (first | (go_at_call 64; (with_reducible refine (HN.out _ ?_).mono ?_); (repeat (first | exact Below.refl _ _ | apply pw_below_drewN | apply below_alloc)); rintro e w' ⟨rfl, ⟨nd, rfl⟩⟩))
  exact bodyPost_ret (v := .tuple #[.agg #[.int .i64 0, .int .i64 0], .iface 73 (.int .i64 200)]) (by simp [results, Tryd.results52, go_sem]) rfl ⟨rfl, by repeat (first | exact Below.refl _ _ | apply pw_below_drewN | apply below_alloc | refine below_set ?_ (Nat.le_refl _))⟩
theorem detail_err {q : Int} (h : In w0 w sb A c xs k) (hx : detP xs k = .error q) :
    Calls Tryd.prog 52 #[.pointer (some ⟨sb, 0, none⟩)] w fun e w' => e = .returned (.tuple #[.agg #[.int .i64 0, .int .i64 0], .iface 73 (.int .i64 q)]) ∧ ErrW w0 w sb k w' := by
  unfold detP at hx
  cases hn : nextP xs 68 23 with
  | none =>
    simp only [hn, Except.error.injEq] at hx
    subst hx
    exact (detail_no h hn).mono fun e w' ⟨h1, h2⟩ => ⟨h1, errW_same h h2⟩
  | some tr =>
    obtain ⟨t, r⟩ := tr
    simp only [hn] at hx
    split at hx
    · next hz =>
      simp only [Except.error.injEq] at hx
      subst hx
      by_cases hl : fieldP t 5 6 = 0
      · exact (detail_zero w0 w sb A c xs t r k _ _ _ _ h hn rfl rfl rfl rfl hl).mono fun e w' ⟨h1, h2⟩ => ⟨h1, errW_left h h2⟩
      · exact (detail_zero2 w0 w sb A c xs t r k _ _ _ _ h hn rfl rfl rfl rfl hl (hz.resolve_left hl)).mono fun e w' ⟨h1, h2⟩ => ⟨h1, errW_left h h2⟩
    · next hz =>
      simp only [not_or] at hz
      split at hx
      · next hv =>
        simp only [Except.error.injEq] at hx
        subst hx
        exact (detail_digit w0 w sb A c xs t r k _ _ _ _ h hn rfl rfl rfl rfl hz.1 hz.2 hv).mono fun e w' ⟨h1, h2⟩ => ⟨h1, errW_left h h2⟩
      · next hv =>
        split at hx
        · next hp =>
          simp only [Except.error.injEq] at hx
          subst hx
          exact (detail_order w0 w sb A c xs t r k _ _ _ _ h hn rfl rfl rfl rfl hz.1 hz.2 (Bool.not_eq_false _ ▸ hv) hp).mono fun e w' ⟨h1, h2⟩ => ⟨h1, errW_left h h2⟩
        · cases hx
theorem detail_suc {x : S50} (h : In w0 w sb A c xs k) (hx : detP xs k = .ok (x, r)) :
    (eol xs < xs.length ∧ r = xs.drop (eol xs + 1)) ∧ Calls Tryd.prog 52 #[.pointer (some ⟨sb, 0, none⟩)] w fun e w' => e = .returned (.tuple #[.agg #[.int .i64 x.f0, .int .i64 x.f1], .nilIface]) ∧ Below (left sb A c xs r w).heap.size (left sb A c xs r w) w' := by
  unfold detP at hx
  cases hn : nextP xs 68 23 with
  | none => simp [hn] at hx
  | some tr =>
    obtain ⟨t, r'⟩ := tr
    simp only [hn] at hx
    split at hx
    · cases hx
    · next hz =>
      simp only [not_or] at hz
      split at hx
      · cases hx
      · next hv =>
        split at hx
        · cases hx
        · next hp =>
          simp only [Except.ok.injEq, Prod.mk.injEq] at hx
          obtain ⟨rfl, rfl⟩ := hx
          obtain ⟨he, -, hr, -⟩ := nextP_some hn
          exact ⟨⟨he, hr⟩, detail_ok w0 w sb A c xs t r' k _ _ _ _ h hn rfl rfl rfl rfl hz.1 hz.2 (by simpa using hv) (Classical.not_not.1 hp).symm⟩
theorem trailer_err {q : Int} {l : List S50} {Ai : Option Addr} {ci : Nat} (h : In w0 w sb A c xs k) (hI : ∀ r, Kd.C k50 (left sb A c xs r w) Ai l.length l) (hci : l.length ≤ ci) (hil : l.length ≤ 100000) (hx : trlP xs l = .error q) :
    Calls Tryd.prog 53 #[.pointer (some ⟨sb, 0, none⟩), .slice Ai l.length ci] w fun e w' => e = .returned (.iface 73 (.int .i64 q)) ∧ ErrW w0 w sb k w' := by
  unfold trlP at hx
  cases hn : nextP xs 84 30 with
  | none =>
    simp only [hn, Except.error.injEq] at hx
    subst hx
    refine (trailer_no w0 w sb A c xs k _ h hn).mono ?_
    rintro e w' ⟨rfl, ⟨nd, rfl⟩⟩
    exact ⟨rfl, errW_same h (pw_below_drewN (Below.refl _ _) nd)⟩
  | some tr =>
    obtain ⟨t, r⟩ := tr
    simp only [hn] at hx
    split at hx
    · cases hx
    · next hz =>
      simp only [Except.error.injEq] at hx
      subst hx
      have ht := totals_run l hil
      by_cases e1 : fieldP t 1 4 = l.length
      · by_cases e2 : (totP l).1 = fieldP t 5 16
        · exact (trailer_3 w0 w sb A c xs t r k _ _ _ _ _ Ai ci _ l h hn rfl rfl rfl (hI r) hci hil ht e1 e2 (fun e3 => hz ⟨e1, e2, e3.symm⟩)).mono fun e w' ⟨h1, h2⟩ => ⟨h1, errW_left h h2⟩
        · exact (trailer_2 w0 w sb A c xs t r k _ _ _ _ _ Ai ci _ l h hn rfl rfl rfl (hI r) hci hil ht e1 (Ne.symm e2)).mono fun e w' ⟨h1, h2⟩ => ⟨h1, errW_left h h2⟩
      · exact (trailer_1 w0 w sb A c xs t r k _ _ _ _ _ Ai ci _ l h hn rfl rfl rfl (hI r) hci hil ht e1).mono fun e w' ⟨h1, h2⟩ => ⟨h1, errW_left h h2⟩
theorem trailer_suc {l : List S50} {Ai : Option Addr} {ci : Nat} (h : In w0 w sb A c xs k) (hI : ∀ r, Kd.C k50 (left sb A c xs r w) Ai l.length l) (hci : l.length ≤ ci) (hil : l.length ≤ 100000) (hx : trlP xs l = .ok r) :
    (eol xs < xs.length ∧ r = xs.drop (eol xs + 1)) ∧ Calls Tryd.prog 53 #[.pointer (some ⟨sb, 0, none⟩), .slice Ai l.length ci] w fun e w' => e = .returned .nilIface ∧ Below (left sb A c xs r w).heap.size (left sb A c xs r w) w' := by
  unfold trlP at hx
  cases hn : nextP xs 84 30 with
  | none => simp [hn] at hx
  | some tr =>
    obtain ⟨t, r'⟩ := tr
    simp only [hn] at hx
    split at hx
    · next hz =>
      simp only [Except.ok.injEq] at hx
      subst hx
      obtain ⟨he, -, hr, -⟩ := nextP_some hn
      exact ⟨⟨he, hr⟩, trailer_ok w0 w sb A c xs t r' k _ _ _ _ _ Ai ci _ l h hn rfl rfl rfl (hI r') hci hil (totals_run l hil) hz.1 hz.2.1 hz.2.2⟩
    · cases hx
end
end Go.Proofs.YtkjdmbbaacjpmaaDoor.Reader
end
section
namespace Go.Proofs.YtkjdmbbaacjpmaaDoor.Reader
open Go.RowKit Go.Proofs.YtkjdmbbaacjpmaaDoor.Scan Go.Proofs.YtkjdmbbaacjpmaaDoorW.PrintWords Go.Proofs.YtkjdmbbaacjpmaaDoorW.PrintLast Go.Proofs.YtkjdmbbaacjpmaaDoor.R
set_option linter.unusedVariables false
set_option linter.unusedSimpArgs false
def readPost (w : World) (res : Except (Int × Int) ((Int × Int) × List S50)) (e : Ending) (w' : World) : Prop :=
  match res with
  | .ok ((d, n), l) => ∃ v, e = .returned (.tuple #[.agg #[.int .i64 d, .int .i64 n, v], .nilIface]) ∧ Kd.R k50 50 w' w.heap.size (fun _ => True) v l ∧ Below w.heap.size w w'
  | .error (c, k) => ∃ eb, e = .returned (.tuple #[.agg #[.int .i64 0, .int .i64 0, .slice none 0 0], .iface 72 (.pointer (some ⟨eb, 0, none⟩))]) ∧ w'.heap[eb]? = some (.cells #[.int .i64 k, .iface 73 (.int .i64 c)] 78 (0, 0)) ∧ w.heap.size ≤ eb ∧ Below w.heap.size w w'
theorem readPost_err {w w' : World} {e : Ending} {c k : Int} (eb : Nat) (he : e = .returned (.tuple #[.agg #[.int .i64 0, .int .i64 0, .slice none 0 0], .iface 72 (.pointer (some ⟨eb, 0, none⟩))])) (hb : w'.heap[eb]? = some (.cells #[.int .i64 k, .iface 73 (.int .i64 c)] 78 (0, 0))) (hl : w.heap.size ≤ eb) (h : Below w.heap.size w w') : readPost w (.error (c, k)) e w' := ⟨eb, he, hb, hl, h⟩
theorem readPost_ok {w w' : World} {e : Ending} {d n : Int} {l : List S50} (v : Value) (he : e = .returned (.tuple #[.agg #[.int .i64 d, .int .i64 n, v], .nilIface])) (hR : Kd.R k50 50 w' w.heap.size (fun _ => True) v l) (h : Below w.heap.size w w') : readPost w (.ok ((d, n), l)) e w' := ⟨v, he, hR, h⟩
theorem blk_new' (w : World) (o : Obj) (g : Nat) (hg : g = w.heap.size) : (w.alloc o).heap[g]? = some o := hg ▸ blk_new w o
def begun (w : World) (A : Option Addr) (n c : Nat) : World := (w.alloc (.cells #[.int .i64 0, .int .i64 0, .slice none 0 0] 32)).alloc (.cells #[.slice A n c, .int .i64 0] 93)
theorem begun_in {w : World} {A : Option Addr} {c : Nat} {xs : List Int} (h : At w A c xs) (HT : C.Tab w) : In w (begun w A xs.length c) (w.heap.size + 1) A c xs 0 :=
  ⟨h, HT, below_alloc (below_alloc (Below.refl _ _) _) _, Nat.le_succ _, by
    have := blk_new (w.alloc (.cells #[.int .i64 0, .int .i64 0, .slice none 0 0] 32)) (.cells #[.slice A xs.length c, .int .i64 0] 93)
    simpa [begun] using this⟩
theorem begun_res (w : World) (A : Option Addr) (n c : Nat) : (begun w A n c).heap[w.heap.size]? = some (.cells #[.int .i64 0, .int .i64 0, .slice none 0 0] 32 (0, 0)) := blk_alloc (blk_new _ _) _
theorem begun_size (w : World) (A : Option Addr) (n c : Nat) : (begun w A n c).heap.size = w.heap.size + 1 + 1 := by simp [begun]
set_option maxRecDepth 100000 in
theorem read_head (A : Option Addr) (c : Nat) (xs : List Int) (w : World) (h : At w A c xs) (HT : C.Tab w) (hx : headP xs = none) :
    Calls Tryd.prog 39 #[.slice A xs.length c] w (readPost w (.error (200, 0))) := by
  have HE := Lib.hid (header_err (begun_in h HT) hx)
  have hres := begun_res w A xs.length c
  have HR := Aside0.mk hres
  have HZ := Aside0.mk (begun_size w A xs.length c)
  clear h hx hres
  unfold begun at *
  generalize xs.length = n at *
  go_enter Tryd.func39, Tryd.ntmps39
  go_wp2_with (first | (refine HE.out.mono ?_; rintro e w' ⟨rfl, hw⟩; have HW := Aside0.mk hw; clear hw; have BK := Aside0.mk ((HW.out.bes w.heap.size (by rw [HZ.out]; omega) (by omega)).trans HR.out); have c0_ : w'.cell? ⟨w.heap.size, 0, none⟩ = some (.int .i64 0) := blk_cell BK.out 0; have c1_ : w'.cell? ⟨w.heap.size, 1, none⟩ = some (.int .i64 0) := blk_cell BK.out 1; have c2_ : w'.cell? ⟨w.heap.size, 2, none⟩ = some (.slice none 0 0) := blk_cell BK.out 2; have z0_ := blk_frozen BK.out 0; have z1_ := blk_frozen BK.out 1; have z2_ := blk_frozen BK.out 2; have lt_ : w.heap.size < w'.heap.size := blk_lt BK.out; have ne_ : ¬ w.heap.size = w'.heap.size := Nat.ne_of_lt lt_))
  exact bodyPost_ret (v := .tuple #[.agg #[.int .i64 0, .int .i64 0, .slice none 0 0], .iface 72 (.pointer (some ⟨w'.heap.size + 1, 0, none⟩))]) (by simp [results, Tryd.results39, go_sem, c0_, c1_, c2_, lt_, ne_]) rfl
    (readPost_err (w'.heap.size + 1) rfl (blk_new' _ _ _ (by simp [setCell_size])) (by omega) (by repeat (first | exact HW.out.bel | apply below_alloc | refine below_set ?_ (Nat.le_refl _))))
theorem In.left {w0 w w' : World} {sb : Nat} {A : Option Addr} {c : Nat} {xs r : List Int} {k : Int} (h : In w0 w sb A c xs k) (he : eol xs < xs.length) (hr : r = xs.drop (eol xs + 1)) (hb : Below (Reader.left sb A c xs r w).heap.size (Reader.left sb A c xs r w) w') :
    In w0 w' sb (cutA A c (eol xs)) (c - (eol xs + 1)) r k := by
  subst hr
  have h1 : In w0 (Reader.left sb A c xs (xs.drop (eol xs + 1)) w) sb (cutA A c (eol xs)) (c - (eol xs + 1)) (xs.drop (eol xs + 1)) k := ⟨h.at_.left he, h.tab, below_set h.bel h.ge, h.ge, blk_put h.blk 0 _ rfl⟩
  exact h1.step hb
theorem start_LS {w w' : World} {rb sb : Nat} {A : Option Addr} {c : Nat} {r : List Int} (d n : Int) (h : In w w' sb A c r 0) (hr : w'.heap[rb]? = some (.cells #[.int .i64 0, .int .i64 0, .slice none 0 0] 32 (0, 0))) (hne : rb ≠ sb) (hge : w.heap.size ≤ rb) :
    LS w ((w'.setCell ⟨sb, 1, none⟩ (.int .i64 1)).alloc (.cells #[.int .i64 d, .int .i64 n, .slice none 0 0] 32)) rb sb w'.heap.size A c r 1 d n (.slice none 0 0) [] := by
  have hz := setCell_size w' ⟨sb, 1, none⟩ (.int .i64 1)
  have h1 : In w (w'.setCell ⟨sb, 1, none⟩ (.int .i64 1)) sb A c r 1 := ⟨h.at_, h.tab, below_set h.bel h.ge, h.ge, blk_put h.blk 1 _ rfl⟩
  exact ⟨h1.step (below_alloc (Below.refl _ _) _), blk_alloc (blk_far hr hne _) _, blk_new' _ _ _ hz.symm, Kd.R_nil _ _ _ _ _, hge, h.bel.size, hne, Nat.ne_of_gt h.lt, Nat.ne_of_lt (blk_lt hr)⟩
theorem At.first {w : World} {A : Option Addr} {c : Nat} {x : Int} {t : List Int} (h : At w A c (x :: t)) : ∃ b o, A = some ⟨b, o, none⟩ ∧ w.cell? ⟨b, o, none⟩ = some (.int .u8 x) := by
  rcases h.adr with ⟨rfl, rfl⟩ | ⟨b, o, rfl⟩
  · have := h.cap; simp at this
  · obtain ⟨_, _, hr⟩ := Kd.reads_of_C (enc := Value.int .u8) (d := (0 : Int)) (h1 := fun _ => rfl) h.C
    obtain ⟨ad, had, hc⟩ := hr (by simp)
    obtain rfl := Option.some.inj had
    have hci := hc 0 (by simp)
    exact ⟨b, o, rfl, by simpa [Addr.add] using hci⟩
theorem LS.fin {w0 W : World} {rb sb bb : Nat} {A : Option Addr} {c : Nat} {xs : List Int} {k d n : Int} {v : Value} {l : List S50} (h : LS w0 W rb sb bb A c xs k d n v l) (a b u : Value) :
    Kd.R k50 50 (((W.setCell ⟨rb, 0, none⟩ a).setCell ⟨rb, 1, none⟩ b).setCell ⟨rb, 2, none⟩ u) w0.heap.size (fun _ => True) v l ∧ Below w0.heap.size w0 (((W.setCell ⟨rb, 0, none⟩ a).setCell ⟨rb, 1, none⟩ b).setCell ⟨rb, 2, none⟩ u) := by
  have b1 := blk_set h.res 0 a
  have b2 := blk_set b1 1 b
  have r1 := Kd.R_set h.row h.res (by decide) 0 a
  have r2 := Kd.R_set r1 b1 (by decide) 1 b
  exact ⟨Kd.R_set r2 b2 (by decide) 2 u, below_set (below_set (below_set h.inn.bel h.rge) h.rge) h.rge⟩
theorem errW_fin {w0 w W : World} {sb rb : Nat} {k : Int} (h : ErrW w0 w sb k W) (hr : w0.heap.size ≤ rb) (a b u : Value) : Below w0.heap.size w0 (((W.setCell ⟨rb, 0, none⟩ a).setCell ⟨rb, 1, none⟩ b).setCell ⟨rb, 2, none⟩ u) := below_set (below_set (below_set h.bel hr) hr) hr
set_option maxRecDepth 100000 in
set_option maxHeartbeats 4000000 in
theorem read_body (A : Option Addr) (c : Nat) (xs r : List Int) (d n : Int) (RES : Except (Int × Int) (List S50)) (w : World) (h : At w A c xs) (HT : C.Tab w) (hx : headP xs = some ((d, n), r)) (hR : loopP 10001 r 1 [] = RES) :
    Calls Tryd.prog 39 #[.slice A xs.length c] w (readPost w (RES.map fun l => ((d, n), l))) := by
  obtain ⟨⟨hel, her⟩, hS⟩ := header_suc (begun_in h HT) hx
  have HE := Lib.hid hS
  have HIN := Lib.hid (begun_in h HT)
  have HEL := Lib.hid hel
  have HER := Lib.hid her
  have HRS := Lib.hid hR
  have HRB := Lib.hid (begun_res w A xs.length c)
  have HZ := Lib.hid (begun_size w A xs.length c)
  clear h hx hS hel her hR
  have hlen := Lib.hid (rfl : xs.length = xs.length)
  go_enter Tryd.func39, Tryd.ntmps39
  go_wp2_with (first | (refine HE.out.mono ?_; rintro e w' ⟨rfl, hb⟩; have HI := Lib.hid (In.left HIN.out HEL.out HER.out hb); have HW := Lib.hid hb; clear hb; have s1_ := HI.out.s1; have z1_ := blk_frozen HI.out.blk 1; have lt_ : w.heap.size + 1 < w'.heap.size := HI.out.lt; have ne_ : ¬ w.heap.size + 1 = w'.heap.size := Nat.ne_of_lt lt_))
  have hrb : w'.heap[w.heap.size]? = some (.cells #[.int .i64 0, .int .i64 0, .slice none 0 0] 32 (0, 0)) := blk_below (blk_far HRB.out (Nat.ne_of_lt (Nat.lt_succ_self _)) _) HW.out
  have HL0 := Lib.hid (start_LS d n HI.out hrb (Nat.ne_of_lt (Nat.lt_succ_self _)) (Nat.le_refl _))
  clear hrb
  go_loopg [7, 8] 10001 (fun kq v7 v8 W => ∃ (A1 : Option Addr) (c1 : Nat) (ys : List Int) (k : Nat) (v : Value) (l : List S50), Aside0 (LS w W w.heap.size (w.heap.size + 1) w'.heap.size A1 c1 ys k d n v l) ∧ Aside0 (loopP kq ys k l = RES) ∧ Aside0 (kq + k = 10002 ∧ 1 ≤ k ∧ k ≤ 10000 ∧ l.length + 1 = k))
  case atStart => exact ⟨_, _, r, 1, _, [], ⟨HL0.out⟩, ⟨HRS.out⟩, ⟨by omega, by omega, by omega, rfl⟩⟩
  case round =>
    obtain ⟨A1, c1, ys, k, v, l, HL, HP, HN⟩ := hrel
    clear HL0 HI HW s1_ z1_ HE HIN HEL HER HRS HRB HZ hlen
    have hk1 : 1 ≤ (k : Int) := by have := HN.out; omega
    have hk2 : (k : Int) ≤ 10000 := by have := HN.out; omega
    have s1_ : wr.cell? ⟨w.heap.size + 1, 1, none⟩ = some (.int .i64 k) := HL.out.inn.s1
    have s0_ : wr.cell? ⟨w.heap.size + 1, 0, none⟩ = some (.slice A1 ys.length c1) := HL.out.inn.s0
    go_upto_region 7 with (fail)
    go_cut [63] (fun v63 W => v63 = .bool (brk ys k) ∧ Aside0 (LS w W w.heap.size (w.heap.size + 1) w'.heap.size A1 c1 ys k d n v l))
    case first =>
      by_cases h9 : 9999 < (k : Int)
      · have b1 : decide (9999 < (k : Int)) = true := decide_eq_true h9
        have hbr : brk ys k = true := by simp [brk, b1]
        have HBR := Lib.hid hbr
        clear hbr h9
        go_wp2
        go_meet
        case rel => exact ⟨by rw [HBR.out], HL⟩
      · have b1 : decide (9999 < (k : Int)) = false := decide_eq_false h9
        by_cases h1 : 1 < (k : Int)
        · have b2 : decide (1 < (k : Int)) = true := decide_eq_true h1
          cases ys with
          | nil =>
            have HBR := Lib.hid (show brk [] k = false by simp [brk, b1])
            simp only [List.length_nil] at s0_
            clear h9 h1
            go_wp2
            go_meet
            case rel => exact ⟨by rw [HBR.out], HL⟩
          | cons x0 ys =>
            obtain ⟨fb, fo, rfl, hx0⟩ := HL.out.inn.here.first
            have hl0 : 0 < (x0 :: ys).length := by simp
            have b3 : decide (0 < ((x0 :: ys).length : Int)) = true := decide_eq_true (by omega)
            have hb4 : brk (x0 :: ys) k = (x0 == 84) := by simp [brk, b1, b2]
            have p0 : (0 < (x0 :: ys).length) = True := eq_true hl0
            by_cases h84 : x0 = 84
            · have b5 : (x0 == 84) = true := by simp [h84]
              rw [b5] at hb4
              have HBR := Lib.hid hb4
              clear hb4 h9 h1 h84
              generalize (x0 :: ys).length = yl at *
              go_wp2
              go_meet
              case rel => exact ⟨by rw [HBR.out], HL⟩
            · have b5 : (x0 == 84) = false := by simp [h84]
              rw [b5] at hb4
              have HBR := Lib.hid hb4
              clear hb4 h9 h1 h84
              generalize (x0 :: ys).length = yl at *
              go_wp2
              go_meet
              case rel => exact ⟨by rw [HBR.out], HL⟩
        · have b2 : decide (1 < (k : Int)) = false := decide_eq_false h1
          have HBR := Lib.hid (show brk ys k = false by simp [brk, b1, b2])
          clear h9 h1
          go_wp2
          go_meet
          case rel => exact ⟨by rw [HBR.out], HL⟩
    case rest =>
      obtain ⟨rfl, HL⟩ := hcut
      cases gk with
      | zero => have := HN.out; omega
      | succ gk =>
        have H := HP.out
        clear HP
        simp only [loopP] at H
        cases hb : brk ys k with
        | true =>
          rw [hb, if_pos rfl] at H
          obtain ⟨Ai, ci, rfl, hci, hC⟩ := Kd.R_reads HL.out.row
          have c2_ : wc.cell? ⟨w'.heap.size, 2, none⟩ = some (.slice Ai l.length ci) := blk_cell HL.out.bat 2
          have hI : ∀ r, Kd.C k50 (Reader.left (w.heap.size + 1) A1 c1 ys r wc) Ai l.length l := fun r => (Kd.R_reads' (Kd.R_set HL.out.row HL.out.inn.blk (by decide) 0 _)).2.2
          have hil : l.length ≤ 100000 := by have := HN.out; omega
          cases ht : trlP ys l with
          | error q =>
            simp only [endP, ht] at H
            subst H
            have HE := Lib.hid (trailer_err HL.out.inn hI hci hil ht)
            clear hI ht hC hb hil hci
            generalize l.length = ln at *
            go_wp2_with (first | (refine HE.out.mono ?_; rintro e we ⟨rfl, hw⟩; have HW := Aside0.mk hw; clear hw; have BK := Aside0.mk ((HW.out.bes w.heap.size (blk_lt HL.out.res) (by omega)).trans HL.out.res); have g0_ : we.cell? ⟨w.heap.size, 0, none⟩ = some (.int .i64 0) := blk_cell BK.out 0; have g1_ : we.cell? ⟨w.heap.size, 1, none⟩ = some (.int .i64 0) := blk_cell BK.out 1; have g2_ : we.cell? ⟨w.heap.size, 2, none⟩ = some (.slice none 0 0) := blk_cell BK.out 2; have z0_ := blk_frozen BK.out 0; have z1_ := blk_frozen BK.out 1; have z2_ := blk_frozen BK.out 2; have lt2_ : w.heap.size < we.heap.size := blk_lt BK.out; have ne2_ : ¬ w.heap.size = we.heap.size := Nat.ne_of_lt lt2_; have l0_ := HW.out.lin; have lt3_ : w.heap.size + 1 < we.heap.size := World.block_lt_of_cell? we _ l0_; have ne3_ : ¬ w.heap.size + 1 = we.heap.size := Nat.ne_of_lt lt3_))
            go_region
            go_wp2
            exact bodyPost_ret (v := .tuple #[.agg #[.int .i64 0, .int .i64 0, .slice none 0 0], .iface 72 (.pointer (some ⟨we.heap.size, 0, none⟩))]) (by simp [results, Tryd.results39, go_sem, g0_, g1_, g2_, lt2_, ne2_]) rfl
              (readPost_err we.heap.size rfl (blk_drew (blk_new' _ _ _ (by simp [setCell_size]))) (by omega) (Below.drew (below_alloc (errW_fin HW.out (Nat.le_refl _) _ _ _) _)))
          | ok r2 =>
            simp only [endP, ht] at H
            obtain ⟨⟨he, hr⟩, hS⟩ := trailer_suc HL.out.inn hI hci hil ht
            have HE := Lib.hid hS
            have HEL := Lib.hid he
            have HER := Lib.hid hr
            clear hI ht hC hb hil hci hS he hr
            by_cases hr2 : r2 = []
            · subst hr2
              rw [if_pos rfl] at H
              subst H
              generalize l.length = ln at *
              go_wp2_with (first | (refine HE.out.mono ?_; rintro e we ⟨rfl, hw⟩; have HW := Lib.hid (HL.out.taken HEL.out HER.out hw); clear hw; have BK := Aside0.mk HW.out.res; have g0_ : we.cell? ⟨w.heap.size, 0, none⟩ = some (.int .i64 0) := blk_cell BK.out 0; have g1_ : we.cell? ⟨w.heap.size, 1, none⟩ = some (.int .i64 0) := blk_cell BK.out 1; have g2_ : we.cell? ⟨w.heap.size, 2, none⟩ = some (.slice none 0 0) := blk_cell BK.out 2; have z0_ := blk_frozen BK.out 0; have z1_ := blk_frozen BK.out 1; have z2_ := blk_frozen BK.out 2; have lt2_ : w.heap.size < we.heap.size := blk_lt BK.out; have ne2_ : ¬ w.heap.size = we.heap.size := Nat.ne_of_lt lt2_; have l0_ := HW.out.inn.s0; have lt3_ : w.heap.size + 1 < we.heap.size := HW.out.inn.lt; have k0_ := blk_cell HW.out.bat 0; have k1_ := blk_cell HW.out.bat 1; have k2_ := blk_cell HW.out.bat 2; simp only [List.getElem?_toArray, List.getElem?_cons_zero, List.getElem?_cons_succ] at k0_ k1_ k2_; simp only [List.length_nil] at l0_))
              exact bodyPost_ret (v := .tuple #[.agg #[.int .i64 d, .int .i64 n, .slice Ai ln ci], .nilIface]) (by simp [results, Tryd.results39, go_sem, g0_, g1_, g2_, lt2_, ne2_]) rfl
                (readPost_ok _ rfl (HW.out.fin _ _ _).1 (HW.out.fin _ _ _).2)
            · rw [if_neg hr2] at H
              subst H
              have hr3 : 0 < r2.length := List.length_pos_iff.2 hr2
              have b3 : decide (0 < (r2.length : Int)) = true := decide_eq_true (by omega)
              clear hr2
              generalize l.length = ln at *
              go_wp2_with (first | (refine HE.out.mono ?_; rintro e we ⟨rfl, hw⟩; have HW := Lib.hid (HL.out.taken HEL.out HER.out hw); clear hw; have BK := Aside0.mk HW.out.res; have g0_ : we.cell? ⟨w.heap.size, 0, none⟩ = some (.int .i64 0) := blk_cell BK.out 0; have g1_ : we.cell? ⟨w.heap.size, 1, none⟩ = some (.int .i64 0) := blk_cell BK.out 1; have g2_ : we.cell? ⟨w.heap.size, 2, none⟩ = some (.slice none 0 0) := blk_cell BK.out 2; have z0_ := blk_frozen BK.out 0; have z1_ := blk_frozen BK.out 1; have z2_ := blk_frozen BK.out 2; have lt2_ : w.heap.size < we.heap.size := blk_lt BK.out; have ne2_ : ¬ w.heap.size = we.heap.size := Nat.ne_of_lt lt2_; have l0_ := HW.out.inn.s0; have l1_ := HW.out.inn.s1; have lt3_ : w.heap.size + 1 < we.heap.size := HW.out.inn.lt; have ne3_ : ¬ w.heap.size + 1 = we.heap.size := Nat.ne_of_lt lt3_))
              go_region
              go_wp2
              exact bodyPost_ret (v := .tuple #[.agg #[.int .i64 0, .int .i64 0, .slice none 0 0], .iface 72 (.pointer (some ⟨we.heap.size, 0, none⟩))]) (by simp [results, Tryd.results39, go_sem, g0_, g1_, g2_, lt2_, ne2_]) rfl
                (readPost_err we.heap.size rfl (blk_drew (blk_new' _ _ _ (by simp [setCell_size]))) (by omega) (Below.drew (below_alloc (HW.out.fin _ _ _).2 _)))
        | false =>
          rw [hb, if_neg (by decide)] at H
          cases ht : detP ys k with
          | error q =>
            simp only [ht] at H
            subst H
            have HE := Lib.hid (detail_err HL.out.inn ht)
            clear ht hb
            go_wp2_with (first | (refine HE.out.mono ?_; rintro e we ⟨rfl, hw⟩; have HW := Aside0.mk hw; clear hw; have BK := Aside0.mk ((HW.out.bes w.heap.size (blk_lt HL.out.res) (by omega)).trans HL.out.res); have g0_ : we.cell? ⟨w.heap.size, 0, none⟩ = some (.int .i64 0) := blk_cell BK.out 0; have g1_ : we.cell? ⟨w.heap.size, 1, none⟩ = some (.int .i64 0) := blk_cell BK.out 1; have g2_ : we.cell? ⟨w.heap.size, 2, none⟩ = some (.slice none 0 0) := blk_cell BK.out 2; have z0_ := blk_frozen BK.out 0; have z1_ := blk_frozen BK.out 1; have z2_ := blk_frozen BK.out 2; have lt2_ : w.heap.size < we.heap.size := blk_lt BK.out; have ne2_ : ¬ w.heap.size = we.heap.size := Nat.ne_of_lt lt2_; have l0_ := HW.out.lin; have lt3_ : w.heap.size + 1 < we.heap.size := World.block_lt_of_cell? we _ l0_; have ne3_ : ¬ w.heap.size + 1 = we.heap.size := Nat.ne_of_lt lt3_))
            go_region
            go_wp2
            exact bodyPost_ret (v := .tuple #[.agg #[.int .i64 0, .int .i64 0, .slice none 0 0], .iface 72 (.pointer (some ⟨we.heap.size + 1, 0, none⟩))]) (by simp [results, Tryd.results39, go_sem, g0_, g1_, g2_, lt2_, ne2_]) rfl
              (readPost_err (we.heap.size + 1) rfl (blk_drew (blk_new' _ _ _ (by simp [setCell_size]))) (by omega) (Below.drew (below_alloc (below_alloc (errW_fin HW.out (Nat.le_refl _) _ _ _) _) _)))
          | ok xr =>
            obtain ⟨x, r2⟩ := xr
            simp only [ht] at H
            obtain ⟨⟨he, hr⟩, hS⟩ := detail_suc HL.out.inn ht
            have HE := Lib.hid hS
            have HEL := Lib.hid he
            have HER := Lib.hid hr
            have HQ := Lib.hid H
            clear ht hS he hr H
            have hil : l.length ≤ 100000 := by have := HN.out; omega
            have HK9 := Lib.hid (show (k : Int) ≤ 9999 by
              simp only [brk, Bool.or_eq_false_iff, decide_eq_false_iff_not] at hb
              omega)
            clear hb
            go_wp2_with (first
              | (refine HE.out.mono ?_; rintro e we ⟨rfl, hw⟩; have HW := Lib.hid (HL.out.taken HEL.out HER.out hw); clear hw; have k2_ : we.cell? ⟨w'.heap.size, 2, none⟩ = some v := blk_cell HW.out.bat 2; have lt4_ : w'.heap.size < we.heap.size := blk_lt HW.out.bat; have ne4_ : ¬ w'.heap.size = we.heap.size := Nat.ne_of_lt lt4_)
              | (at_builtin; have HA := Lib.hid (HW.out.alloc (.cells #[.int .i64 x.f0, .int .i64 x.f1] 50)); refine Kd.R_append k50 (w0 := w) w.heap.size rfl (.tmp 81) (.tmp 83) 30 50 (.agg #[(.int .i64 0), (.int .i64 0)]) 16 rfl Tryd.underlying30 info50 rfl (by decide) (by omega) v l x [.int .i64 x.f0, .int .i64 x.f1] (fun _ => True) (fun _ => False) rfl (by first | (go_simp; done) | (go_simp; rfl)) (k50_mkM _ _ _ x) (fun _ hk => hk.elim) (fun _ _ => trivial) HA.out.row HA.out.inn.bel HA.out.inn.bel.size (by omega) ?_; intro v1 w1 hR hB hg hat; obtain ⟨l1, hl1⟩ : ∃ l1, l1 = l ++ [x] := ⟨_, rfl⟩; rw [← hl1] at hR; have HL1 := Lib.hid hl1; clear hl1; obtain ⟨Av, cv, rfl⟩ := Kd.R_slice hR; have HF := Lib.hid ((HA.out.app hR hB hg).line ((k : Int) + 1)); have e2_ : w1.cell? ⟨w'.heap.size, 2, none⟩ = some v := blk_cell (blk_grown HA.out.bat hg (Kd.R_ne HA.out.row HA.out.bat (by decide))) 2; have f2_ : w1.frozen? ⟨w'.heap.size, 2, none⟩ = false := blk_frozen (blk_grown HA.out.bat hg (Kd.R_ne HA.out.row HA.out.bat (by decide))) 2; have e1_ : w1.cell? ⟨w.heap.size + 1, 1, none⟩ = some (.int .i64 k) := blk_cell (blk_grown HA.out.inn.blk hg (Kd.R_ne HA.out.row HA.out.inn.blk (by decide))) 1; have f1_ : w1.frozen? ⟨w.heap.size + 1, 1, none⟩ = false := blk_frozen (blk_grown HA.out.inn.blk hg (Kd.R_ne HA.out.row HA.out.inn.blk (by decide))) 1; have ne5_ : ¬ w'.heap.size = w.heap.size + 1 := (by omega); clear hR hB hg hat))
            go_roundg gk
            case measure => omega
            case rel => exact ⟨_, _, r2, k + 1, _, l1, ⟨HF.out⟩, ⟨by rw [HL1.out, Int.natCast_add]; exact HQ.out⟩, ⟨by have := HN.out; omega, by omega, by have := HN.out; have := HK9.out; omega, by have := HN.out; rw [HL1.out]; simp; omega⟩⟩
end Go.Proofs.YtkjdmbbaacjpmaaDoor.Reader
end
section
namespace Go.Proofs.YtkjdmbbaacjpmaaDoor.As
open Go.RowKit Go.Extern.Stop Go.Stop Go.Extern
set_option linter.unusedVariables false
set_option linter.unusedSimpArgs false
theorem as_nil (t : Value) (w : World) :
    Calls Tryd.prog 40 #[.nilIface, t] w fun e w' => e = .returned (.bool false) ∧ w' = w := by
  go_enter Tryd.func40, Tryd.ntmps40
  go_wp2
  go_ret
  exact ⟨rfl, rfl⟩
theorem valueOf75 (t : Addr) (w : World) : (ReflectliteValue.unpack (.iface 75 (.pointer (some t)))).run Tryd.prog w
    = .ok (.agg #[.pointer (some ⟨8, 75, none⟩), .pointer (some ⟨w.heap.size, 0, none⟩), .int .u64 150]) (w.alloc (.cells #[.pointer (some t)] 75)) := by kernel_rfl
theorem valueOf76 (t : Addr) (w : World) : (ReflectliteValue.unpack (.iface 76 (.pointer (some t)))).run Tryd.prog w
    = .ok (.agg #[.pointer (some ⟨8, 76, none⟩), .pointer (some ⟨w.heap.size, 0, none⟩), .int .u64 150]) (w.alloc (.cells #[.pointer (some t)] 76)) := by kernel_rfl
theorem valueOf72 (t : Addr) (w : World) : (ReflectliteValue.unpack (.iface 72 (.pointer (some t)))).run Tryd.prog w
    = .ok (.agg #[.pointer (some ⟨8, 72, none⟩), .pointer (some ⟨w.heap.size, 0, none⟩), .int .u64 150]) (w.alloc (.cells #[.pointer (some t)] 72)) := by kernel_rfl
theorem valueOf73 (n : Int) (w : World) : (ReflectliteValue.unpack (.iface 73 (.int .i64 n))).run Tryd.prog w
    = .ok (.agg #[.pointer (some ⟨8, 73, none⟩), .pointer (some ⟨w.heap.size, 0, none⟩), .int .u64 130]) (w.alloc (.cells #[.int .i64 n] 73)) := by kernel_rfl
theorem type75 (a : Addr) (w : World) : (ReflectliteValue.methodAny (ReflectliteValue.valueError "reflectlite.Value.Type" 0) (fun t _ _ _ => ReflectliteType.toType t) #[.agg #[.pointer (some ⟨8, 75, none⟩), .pointer (some a), .int .u64 150]]).run Tryd.prog w
    = .ok (.iface 119 (.agg #[.pointer (some ⟨8, 75, none⟩)])) w := by kernel_rfl
theorem type76 (a : Addr) (w : World) : (ReflectliteValue.methodAny (ReflectliteValue.valueError "reflectlite.Value.Type" 0) (fun t _ _ _ => ReflectliteType.toType t) #[.agg #[.pointer (some ⟨8, 76, none⟩), .pointer (some a), .int .u64 150]]).run Tryd.prog w
    = .ok (.iface 119 (.agg #[.pointer (some ⟨8, 76, none⟩)])) w := by kernel_rfl
theorem methodKind (h : Value) (w : World) : (Go.method 294 119 (.agg #[h]) "Kind").run Tryd.prog w = .ok (111, h) w := by kernel_rfl
theorem kindOf75 (w : World) : ((ReflectliteType.abiMethod fun t => (fun a : Nat => Value.int IntKind.u8 (a : Int)) <$> Rtype.kind t) #[.pointer (some ⟨8, 75, none⟩)]).run Tryd.prog w = .ok (.int .u8 22) w := by kernel_rfl
theorem kindOf76 (w : World) : ((ReflectliteType.abiMethod fun t => (fun a : Nat => Value.int IntKind.u8 (a : Int)) <$> Rtype.kind t) #[.pointer (some ⟨8, 76, none⟩)]).run Tryd.prog w = .ok (.int .u8 22) w := by kernel_rfl
theorem kindOf72 (w : World) : ((ReflectliteType.abiMethod fun t => (fun a : Nat => Value.int IntKind.u8 (a : Int)) <$> Rtype.kind t) #[.pointer (some ⟨8, 72, none⟩)]).run Tryd.prog w = .ok (.int .u8 22) w := by kernel_rfl
theorem kindOf73 (w : World) : ((ReflectliteType.abiMethod fun t => (fun a : Nat => Value.int IntKind.u8 (a : Int)) <$> Rtype.kind t) #[.pointer (some ⟨8, 73, none⟩)]).run Tryd.prog w = .ok (.int .u8 2) w := by kernel_rfl
theorem methodElem (h : Value) (w : World) : (Go.method 294 119 (.agg #[h]) "Elem").run Tryd.prog w = .ok (123, .agg #[h]) w := by kernel_rfl
theorem methodImplements (h : Value) (w : World) : (Go.method 294 119 (.agg #[h]) "Implements").run Tryd.prog w = .ok (124, .agg #[h]) w := by kernel_rfl
theorem methodAssignableTo (h : Value) (w : World) : (Go.method 294 119 (.agg #[h]) "AssignableTo").run Tryd.prog w = .ok (121, .agg #[h]) w := by kernel_rfl
theorem elemOf75 (w : World) : (ReflectliteType.method ReflectliteType.elem #[.agg #[.pointer (some ⟨8, 75, none⟩)]]).run Tryd.prog w = .ok (.iface 119 (.agg #[.pointer (some ⟨8, 72, none⟩)])) w := by kernel_rfl
theorem elemOf76 (w : World) : (ReflectliteType.method ReflectliteType.elem #[.agg #[.pointer (some ⟨8, 76, none⟩)]]).run Tryd.prog w = .ok (.iface 119 (.agg #[.pointer (some ⟨8, 73, none⟩)])) w := by kernel_rfl
theorem implements72 (w : World) : (ReflectliteType.relation "Implements" ReflectliteType.implements_ #[.agg #[.pointer (some ⟨8, 72, none⟩)], .iface 119 (.agg #[.pointer (some ⟨8, 69, none⟩)])]).run Tryd.prog w = .ok (.bool true) w := by kernel_rfl
theorem implements73 (w : World) : (ReflectliteType.relation "Implements" ReflectliteType.implements_ #[.agg #[.pointer (some ⟨8, 73, none⟩)], .iface 119 (.agg #[.pointer (some ⟨8, 69, none⟩)])]).run Tryd.prog w = .ok (.bool true) w := by kernel_rfl
theorem typeOf72 (v : Value) (w : World) : (ReflectliteType.typeOf #[.iface 72 v]).run Tryd.prog w = .ok (.iface 119 (.agg #[.pointer (some ⟨8, 72, none⟩)])) w := by kernel_rfl
theorem typeOf73 (v : Value) (w : World) : (ReflectliteType.typeOf #[.iface 73 v]).run Tryd.prog w = .ok (.iface 119 (.agg #[.pointer (some ⟨8, 73, none⟩)])) w := by kernel_rfl
theorem assignable72 (w : World) : (ReflectliteType.relation "AssignableTo" ReflectliteType.assignableTo #[.agg #[.pointer (some ⟨8, 72, none⟩)], .iface 119 (.agg #[.pointer (some ⟨8, 72, none⟩)])]).run Tryd.prog w = .ok (.bool true) w := by kernel_rfl
theorem assignable7273 (w : World) : (ReflectliteType.relation "AssignableTo" ReflectliteType.assignableTo #[.agg #[.pointer (some ⟨8, 72, none⟩)], .iface 119 (.agg #[.pointer (some ⟨8, 73, none⟩)])]).run Tryd.prog w = .ok (.bool false) w := by kernel_rfl
theorem assignable73 (w : World) : (ReflectliteType.relation "AssignableTo" ReflectliteType.assignableTo #[.agg #[.pointer (some ⟨8, 73, none⟩)], .iface 119 (.agg #[.pointer (some ⟨8, 73, none⟩)])]).run Tryd.prog w = .ok (.bool true) w := by kernel_rfl
theorem methodUnwrap (h : Value) (w : World) : (Go.method 294 72 h "Unwrap").run Tryd.prog w = .ok (115, h) w := by kernel_rfl
theorem rlm (z : Sem Value) (f : TypeId → Addr → Nat → Nat → Sem Value) (v : Value) :
    ReflectliteValue.method z f #[v] = (do match ← ReflectliteValue.parts v with | none => z | some (t, a, fl) => f t a fl (fl % 32)) := rfl
theorem parts75 (a : Addr) (w : World) : (ReflectliteValue.parts (.agg #[.pointer (some ⟨8, 75, none⟩), .pointer (some a), .int .u64 150])).run Tryd.prog w = .ok (some (75, a, 150)) w := by kernel_rfl
theorem parts76 (a : Addr) (w : World) : (ReflectliteValue.parts (.agg #[.pointer (some ⟨8, 76, none⟩), .pointer (some a), .int .u64 150])).run Tryd.prog w = .ok (some (76, a, 150)) w := by kernel_rfl
theorem isNil75 (a p : Addr) (W : World) (ha : W.cell? a = some (.pointer (some p))) :
    (ReflectliteValue.method (ReflectliteValue.valueError "reflectlite.Value.IsNil" 0) ReflectliteValue.isNil #[.agg #[.pointer (some ⟨8, 75, none⟩), .pointer (some a), .int .u64 150]]).run Tryd.prog W = .ok (.bool false) W := by
  rw [rlm]
  simp only [Sem.run_bind, parts75, Result.andThen]
  simp [ReflectliteValue.isNil, loadVar, isAgg, underlying, Tryd.underlying75, ha, Result.andThen]
theorem isNil76 (a p : Addr) (W : World) (ha : W.cell? a = some (.pointer (some p))) :
    (ReflectliteValue.method (ReflectliteValue.valueError "reflectlite.Value.IsNil" 0) ReflectliteValue.isNil #[.agg #[.pointer (some ⟨8, 76, none⟩), .pointer (some a), .int .u64 150]]).run Tryd.prog W = .ok (.bool false) W := by
  rw [rlm]
  simp only [Sem.run_bind, parts76, Result.andThen]
  simp [ReflectliteValue.isNil, loadVar, isAgg, underlying, Tryd.underlying76, ha, Result.andThen]
theorem elemT75 (w : World) : (Rtype.elem? 75).run Tryd.prog w = .ok (some 72) w := by kernel_rfl
theorem elemT76 (w : World) : (Rtype.elem? 76).run Tryd.prog w = .ok (some 73) w := by kernel_rfl
theorem mk72 (p : Addr) (w : World) : (ReflectliteValue.mk 72 p ReflectliteValue.flagAddr).run Tryd.prog w = .ok (.agg #[.pointer (some ⟨8, 72, none⟩), .pointer (some p), .int .u64 406]) w := by kernel_rfl
theorem mk73 (p : Addr) (w : World) : (ReflectliteValue.mk 73 p ReflectliteValue.flagAddr).run Tryd.prog w = .ok (.agg #[.pointer (some ⟨8, 73, none⟩), .pointer (some p), .int .u64 386]) w := by kernel_rfl
theorem elemV75 (a p : Addr) (W : World) (ha : W.cell? a = some (.pointer (some p))) :
    (ReflectliteValue.method (ReflectliteValue.valueError "reflectlite.Value.Elem" 0) ReflectliteValue.elem #[.agg #[.pointer (some ⟨8, 75, none⟩), .pointer (some a), .int .u64 150]]).run Tryd.prog W
      = .ok (.agg #[.pointer (some ⟨8, 72, none⟩), .pointer (some p), .int .u64 406]) W := by
  rw [rlm]
  simp only [Sem.run_bind, parts75, Result.andThen]
  simp [ReflectliteValue.elem, loadVar, isAgg, underlying, Tryd.underlying75, ha, Result.andThen, elemT75, mk72]
theorem elemV76 (a p : Addr) (W : World) (ha : W.cell? a = some (.pointer (some p))) :
    (ReflectliteValue.method (ReflectliteValue.valueError "reflectlite.Value.Elem" 0) ReflectliteValue.elem #[.agg #[.pointer (some ⟨8, 76, none⟩), .pointer (some a), .int .u64 150]]).run Tryd.prog W
      = .ok (.agg #[.pointer (some ⟨8, 73, none⟩), .pointer (some p), .int .u64 386]) W := by
  rw [rlm]
  simp only [Sem.run_bind, parts76, Result.andThen]
  simp [ReflectliteValue.elem, loadVar, isAgg, underlying, Tryd.underlying76, ha, Result.andThen, elemT76, mk73]
theorem rls (v x : Value) : ReflectliteValue.set #[v, x] = (do
    let (some (dst, a, fl), some (src, b, _)) := (← ReflectliteValue.parts v, ← ReflectliteValue.parts x)
      | unsupported (.noEntry "extern/(internal/reflectlite.Value).Set.zeroValue")
    if fl / ReflectliteValue.flagAddr % 2 == 0 then unsupported (.noEntry "extern/(internal/reflectlite.Value).Set.unaddressable")
    let val ← loadVar src b
    if ← Rtype.directlyAssignable dst src then storeVar dst a val
    else if ← Rtype.implements dst src then
      if (← Rtype.kind src) == 20 then
        match val with
        | .nilIface => unsupported (.noEntry "extern/reflectlite: a nil value of one interface type handed on as a value of another")
        | _ => storeVar dst a val
      else storeVar dst a (.iface src val)
    else panicString ("reflectlite.Set: value of type " ++ (← Rtype.spelt src) ++ " is not assignable to type " ++ (← Rtype.spelt dst))
    pure (.tuple #[])) := rfl
theorem parts72a (a : Addr) (w : World) : (ReflectliteValue.parts (.agg #[.pointer (some ⟨8, 72, none⟩), .pointer (some a), .int .u64 406])).run Tryd.prog w = .ok (some (72, a, 406)) w := by kernel_rfl
theorem parts72 (a : Addr) (w : World) : (ReflectliteValue.parts (.agg #[.pointer (some ⟨8, 72, none⟩), .pointer (some a), .int .u64 150])).run Tryd.prog w = .ok (some (72, a, 150)) w := by kernel_rfl
theorem parts73a (a : Addr) (w : World) : (ReflectliteValue.parts (.agg #[.pointer (some ⟨8, 73, none⟩), .pointer (some a), .int .u64 386])).run Tryd.prog w = .ok (some (73, a, 386)) w := by kernel_rfl
theorem parts73 (a : Addr) (w : World) : (ReflectliteValue.parts (.agg #[.pointer (some ⟨8, 73, none⟩), .pointer (some a), .int .u64 130])).run Tryd.prog w = .ok (some (73, a, 130)) w := by kernel_rfl
theorem direct72 (w : World) : (Rtype.directlyAssignable 72 72).run Tryd.prog w = .ok true w := by kernel_rfl
theorem direct73 (w : World) : (Rtype.directlyAssignable 73 73).run Tryd.prog w = .ok true w := by kernel_rfl
theorem set72 (ta b e : Addr) (old : Value) (W : World) (hb : W.cell? b = some (.pointer (some e))) (ht : W.cell? ta = some old) (hf : W.frozen? ta = false) :
    (ReflectliteValue.set #[.agg #[.pointer (some ⟨8, 72, none⟩), .pointer (some ta), .int .u64 406], .agg #[.pointer (some ⟨8, 72, none⟩), .pointer (some b), .int .u64 150]]).run Tryd.prog W
      = .ok (.tuple #[]) (W.setCell ta (.pointer (some e))) := by
  rw [rls]
  simp only [Sem.run_bind, parts72a, parts72, Result.andThen]
  simp [ReflectliteValue.flagAddr, loadVar, isAgg, underlying, Tryd.underlying72, hb, Result.andThen, direct72, storeVar, Value.cells, storeCells, Addr.add]
  rw [run_store Tryd.prog W ta _ _ (by rfl)]
  simp [ht, hf]
theorem set73 (ta b : Addr) (n : Int) (old : Value) (W : World) (hb : W.cell? b = some (.int .i64 n)) (ht : W.cell? ta = some old) (hf : W.frozen? ta = false) :
    (ReflectliteValue.set #[.agg #[.pointer (some ⟨8, 73, none⟩), .pointer (some ta), .int .u64 386], .agg #[.pointer (some ⟨8, 73, none⟩), .pointer (some b), .int .u64 130]]).run Tryd.prog W
      = .ok (.tuple #[]) (W.setCell ta (.int .i64 n)) := by
  rw [rls]
  simp only [Sem.run_bind, parts73a, parts73, Result.andThen]
  simp [ReflectliteValue.flagAddr, loadVar, isAgg, underlying, Tryd.underlying73, hb, Result.andThen, direct73, storeVar, Value.cells, storeCells, Addr.add]
  rw [run_store Tryd.prog W ta _ _ (by rfl)]
  simp [ht, hf]
end Go.Proofs.YtkjdmbbaacjpmaaDoor.As
end
section
namespace Go.Proofs.YtkjdmbbaacjpmaaDoor.As
open Go.RowKit Go.Extern.Stop Go.Stop Go.Extern
set_option linter.unusedVariables false
set_option linter.unusedSimpArgs false
theorem ta124 (v : Value) (w : World) : (Instr.typeAssert (.iface 72 v) 69 124 true).run Tryd.prog w = .ok (.tuple #[.nilIface, .bool false]) w := run_typeAssert_lacksB Tryd.underlying124 (by kernel_rfl) (by kernel_rfl) v 69 w
theorem unwrap (eb eo : Nat) (v : Value) (w : World) (h : w.cell? ⟨eb, eo + 1, none⟩ = some v) : Calls Tryd.prog 115 #[.pointer (some ⟨eb, eo, none⟩)] w fun e w' => e = .returned v ∧ w' = w := by
  go_enter Tryd.func115, Tryd.ntmps115
  go_wp2
  go_ret
  exact ⟨rfl, rfl⟩
theorem ta127 (v : Value) (w : World) : (Instr.typeAssert (.iface 72 v) 69 127 true).run Tryd.prog w = .ok (.tuple #[.iface 72 v, .bool true]) w := by kernel_rfl
set_option maxRecDepth 100000 in
set_option maxHeartbeats 4000000 in
theorem as_at (e t : Addr) (old : Value) (w : World) (hg : w.cell? ⟨0, 0, none⟩ = some (.iface 119 (.agg #[.pointer (some ⟨8, 69, none⟩)]))) (ht0 : w.cell? t = some old) (hf0 : w.frozen? t = false) :
    Calls Tryd.prog 40 #[.iface 72 (.pointer (some e)), .iface 75 (.pointer (some t))] w fun ev w' => ev = .returned (.bool true) ∧ w' = ((((w.alloc (.cells #[.pointer (some t)] 75)).alloc (.cells #[.pointer (some ⟨8, 75, none⟩), .pointer (some ⟨w.heap.size, 0, none⟩), .int .u64 150] 101)).alloc (.cells #[.pointer (some ⟨8, 75, none⟩), .pointer (some ⟨w.heap.size, 0, none⟩), .int .u64 150] 101)).alloc (.cells #[.pointer (some e)] 72)).setCell t (.pointer (some e)) := by
  have h6 := @run_callFunc_extern Tryd.prog 54 _ (fun args => ReflectliteValue.unpack (args.getD 0 (.tuple #[]))) Tryd.func54 (by kernel_rfl) (by kernel_rfl) (by kernel_rfl) (by kernel_rfl)
  have h7 := @run_callFunc_extern Tryd.prog 55 _ (ReflectliteValue.methodAny (ReflectliteValue.valueError "reflectlite.Value.Type" 0) (fun t _ _ _ => ReflectliteType.toType t)) Tryd.func55 (by kernel_rfl) (by kernel_rfl) (by kernel_rfl) (by kernel_rfl)
  have h8 := @run_callFunc_extern Tryd.prog 56 _ (ReflectliteValue.method (ReflectliteValue.valueError "reflectlite.Value.IsNil" 0) ReflectliteValue.isNil) Tryd.func56 (by kernel_rfl) (by kernel_rfl) (by kernel_rfl) (by kernel_rfl)
  have h27 := @run_callFunc_extern Tryd.prog 111 _ (ReflectliteType.abiMethod fun t => do pure (.int .u8 (← Rtype.kind t))) Tryd.func111 (by kernel_rfl) (by kernel_rfl) (by kernel_rfl) (by kernel_rfl)
  have h37 := @run_callFunc_extern Tryd.prog 123 _ (ReflectliteType.method ReflectliteType.elem) Tryd.func123 (by kernel_rfl) (by kernel_rfl) (by kernel_rfl) (by kernel_rfl)
  have h38 := @run_callFunc_extern Tryd.prog 124 _ (ReflectliteType.relation "Implements" ReflectliteType.implements_) Tryd.func124 (by kernel_rfl) (by kernel_rfl) (by kernel_rfl) (by kernel_rfl)
  have h10 := @run_callFunc_extern Tryd.prog 67 _ ReflectliteType.typeOf Tryd.func67 (by kernel_rfl) (by kernel_rfl) (by kernel_rfl) (by kernel_rfl)
  have h35 := @run_callFunc_extern Tryd.prog 121 _ (ReflectliteType.relation "AssignableTo" ReflectliteType.assignableTo) Tryd.func121 (by kernel_rfl) (by kernel_rfl) (by kernel_rfl) (by kernel_rfl)
  have h11 := @run_callFunc_extern Tryd.prog 68 _ (ReflectliteValue.method (ReflectliteValue.valueError "reflectlite.Value.Elem" 0) ReflectliteValue.elem) Tryd.func68 (by kernel_rfl) (by kernel_rfl) (by kernel_rfl) (by kernel_rfl)
  have h12 := @run_callFunc_extern Tryd.prog 69 _ ReflectliteValue.set Tryd.func69 (by kernel_rfl) (by kernel_rfl) (by kernel_rfl) (by kernel_rfl)
  have tO := typeOf72
  have mA := methodAssignableTo
  have a25 := assignable72
  have v25 := valueOf72
  have f6 := valueOf75
  have f7 := type75
  have mK := methodKind
  have mE := methodElem
  have mI := methodImplements
  have k27 := kindOf75
  have k25 := kindOf72
  have e27 := elemOf75
  have i25 := implements72
  have n8 := isNil75 ⟨w.heap.size, 0, none⟩ t ((w.alloc (.cells #[.pointer (some t)] 75)).alloc (.cells #[.pointer (some ⟨8, 75, none⟩), .pointer (some ⟨w.heap.size, 0, none⟩), .int .u64 150] 101)) (by simp)
  have hlt : 0 < w.heap.size := by
    rcases Nat.eq_zero_or_pos w.heap.size with h0 | h
    · simp [World.cell?, h0] at hg
    · exact h
  have hg2 : ((w.alloc (.cells #[.pointer (some t)] 75)).alloc (.cells #[.pointer (some ⟨8, 75, none⟩), .pointer (some ⟨w.heap.size, 0, none⟩), .int .u64 150] 101)).cell? ⟨0, 0, none⟩ = some (.iface 119 (.agg #[.pointer (some ⟨8, 69, none⟩)])) := by
    rw [World.cell?_alloc_lt _ _ ⟨0, 0, none⟩ (by simp), World.cell?_alloc_lt _ _ ⟨0, 0, none⟩ hlt]; exact hg
  have htl : t.block < w.heap.size := by
    rcases Nat.lt_or_ge t.block w.heap.size with h | h
    · exact h
    · simp [World.cell?, Array.getElem?_eq_none h] at ht0
  have el := elemV75 ⟨w.heap.size, 0, none⟩ t (((w.alloc (.cells #[.pointer (some t)] 75)).alloc (.cells #[.pointer (some ⟨8, 75, none⟩), .pointer (some ⟨w.heap.size, 0, none⟩), .int .u64 150] 101)).alloc (.cells #[.pointer (some ⟨8, 75, none⟩), .pointer (some ⟨w.heap.size, 0, none⟩), .int .u64 150] 101)) (by rw [World.cell?_alloc_lt _ _ ⟨w.heap.size, 0, none⟩ (by simp; omega)]; simp)
  have st := set72 t ⟨w.heap.size + 1 + 1 + 1, 0, none⟩ e old ((((w.alloc (.cells #[.pointer (some t)] 75)).alloc (.cells #[.pointer (some ⟨8, 75, none⟩), .pointer (some ⟨w.heap.size, 0, none⟩), .int .u64 150] 101)).alloc (.cells #[.pointer (some ⟨8, 75, none⟩), .pointer (some ⟨w.heap.size, 0, none⟩), .int .u64 150] 101)).alloc (.cells #[.pointer (some e)] 72))
    (by rw [World.cell?_alloc_at _ _ _ _ (by simp)]; rfl)
    (by rw [World.cell?_alloc_lt _ _ t (by simp; omega), World.cell?_alloc_lt _ _ t (by simp; omega), World.cell?_alloc_lt _ _ t (by simp; omega), World.cell?_alloc_lt _ _ t htl]; exact ht0)
    (by rw [World.frozen?_alloc_old _ _ t (by simp; omega), World.frozen?_alloc_old _ _ t (by simp; omega), World.frozen?_alloc_old _ _ t (by simp; omega), World.frozen?_alloc_old _ _ t (Nat.ne_of_lt htl)]; exact hf0)
  go_enter Tryd.func40, Tryd.ntmps40
  go_wp2
  refine wp_loop_rounds 1 ?_
  rw [rounds_succ]
  go_wp2
  go_ret
  exact ⟨rfl, rfl⟩
set_option maxRecDepth 100000 in
set_option maxHeartbeats 4000000 in
theorem as_fault (e t : Addr) (line n : Int) (old : Value) (w : World) (hg : w.cell? ⟨0, 0, none⟩ = some (.iface 119 (.agg #[.pointer (some ⟨8, 69, none⟩)]))) (ht0 : w.cell? t = some old) (hf0 : w.frozen? t = false) (heb : e.spot = none) (he1 : w.cell? ⟨e.block, e.off + 1, none⟩ = some (.iface 73 (.int .i64 n))) :
    Calls Tryd.prog 40 #[.iface 72 (.pointer (some e)), .iface 76 (.pointer (some t))] w fun ev w' => ev = .returned (.bool true) ∧ w' = ((((w.alloc (.cells #[.pointer (some t)] 76)).alloc (.cells #[.pointer (some ⟨8, 76, none⟩), .pointer (some ⟨w.heap.size, 0, none⟩), .int .u64 150] 101)).alloc (.cells #[.pointer (some ⟨8, 76, none⟩), .pointer (some ⟨w.heap.size, 0, none⟩), .int .u64 150] 101)).alloc (.cells #[.int .i64 n] 73)).setCell t (.int .i64 n) := by
  have h6 := @run_callFunc_extern Tryd.prog 54 _ (fun args => ReflectliteValue.unpack (args.getD 0 (.tuple #[]))) Tryd.func54 (by kernel_rfl) (by kernel_rfl) (by kernel_rfl) (by kernel_rfl)
  have h7 := @run_callFunc_extern Tryd.prog 55 _ (ReflectliteValue.methodAny (ReflectliteValue.valueError "reflectlite.Value.Type" 0) (fun t _ _ _ => ReflectliteType.toType t)) Tryd.func55 (by kernel_rfl) (by kernel_rfl) (by kernel_rfl) (by kernel_rfl)
  have h8 := @run_callFunc_extern Tryd.prog 56 _ (ReflectliteValue.method (ReflectliteValue.valueError "reflectlite.Value.IsNil" 0) ReflectliteValue.isNil) Tryd.func56 (by kernel_rfl) (by kernel_rfl) (by kernel_rfl) (by kernel_rfl)
  have h27 := @run_callFunc_extern Tryd.prog 111 _ (ReflectliteType.abiMethod fun t => do pure (.int .u8 (← Rtype.kind t))) Tryd.func111 (by kernel_rfl) (by kernel_rfl) (by kernel_rfl) (by kernel_rfl)
  have h37 := @run_callFunc_extern Tryd.prog 123 _ (ReflectliteType.method ReflectliteType.elem) Tryd.func123 (by kernel_rfl) (by kernel_rfl) (by kernel_rfl) (by kernel_rfl)
  have h38 := @run_callFunc_extern Tryd.prog 124 _ (ReflectliteType.relation "Implements" ReflectliteType.implements_) Tryd.func124 (by kernel_rfl) (by kernel_rfl) (by kernel_rfl) (by kernel_rfl)
  have h10 := @run_callFunc_extern Tryd.prog 67 _ ReflectliteType.typeOf Tryd.func67 (by kernel_rfl) (by kernel_rfl) (by kernel_rfl) (by kernel_rfl)
  have h35 := @run_callFunc_extern Tryd.prog 121 _ (ReflectliteType.relation "AssignableTo" ReflectliteType.assignableTo) Tryd.func121 (by kernel_rfl) (by kernel_rfl) (by kernel_rfl) (by kernel_rfl)
  have h11 := @run_callFunc_extern Tryd.prog 68 _ (ReflectliteValue.method (ReflectliteValue.valueError "reflectlite.Value.Elem" 0) ReflectliteValue.elem) Tryd.func68 (by kernel_rfl) (by kernel_rfl) (by kernel_rfl) (by kernel_rfl)
  have h12 := @run_callFunc_extern Tryd.prog 69 _ ReflectliteValue.set Tryd.func69 (by kernel_rfl) (by kernel_rfl) (by kernel_rfl) (by kernel_rfl)
  have tO := typeOf72
  have tO3 := typeOf73
  have mA := methodAssignableTo
  have a25 := assignable7273
  have a26 := assignable73
  have v25 := valueOf73
  have f6 := valueOf76
  have f7 := type76
  have mU := methodUnwrap
  have tA := ta124
  have tB := ta127
  have hU : ∀ (args : Array Value) (w : World), (callFunc 115 args).run Tryd.prog w = .ok (.enter 115 args) w := fun _ _ => by kernel_rfl
  have mK := methodKind
  have mE := methodElem
  have mI := methodImplements
  have k27 := kindOf76
  have k25 := kindOf73
  have e27 := elemOf76
  have i25 := implements73
  have n8 := isNil76 ⟨w.heap.size, 0, none⟩ t ((w.alloc (.cells #[.pointer (some t)] 76)).alloc (.cells #[.pointer (some ⟨8, 76, none⟩), .pointer (some ⟨w.heap.size, 0, none⟩), .int .u64 150] 101)) (by simp)
  have hlt : 0 < w.heap.size := by
    rcases Nat.eq_zero_or_pos w.heap.size with h0 | h
    · simp [World.cell?, h0] at hg
    · exact h
  have hg2 : ((w.alloc (.cells #[.pointer (some t)] 76)).alloc (.cells #[.pointer (some ⟨8, 76, none⟩), .pointer (some ⟨w.heap.size, 0, none⟩), .int .u64 150] 101)).cell? ⟨0, 0, none⟩ = some (.iface 119 (.agg #[.pointer (some ⟨8, 69, none⟩)])) := by
    rw [World.cell?_alloc_lt _ _ ⟨0, 0, none⟩ (by simp), World.cell?_alloc_lt _ _ ⟨0, 0, none⟩ hlt]; exact hg
  have htl : t.block < w.heap.size := by
    rcases Nat.lt_or_ge t.block w.heap.size with h | h
    · exact h
    · simp [World.cell?, Array.getElem?_eq_none h] at ht0
  have el := elemV76 ⟨w.heap.size, 0, none⟩ t (((w.alloc (.cells #[.pointer (some t)] 76)).alloc (.cells #[.pointer (some ⟨8, 76, none⟩), .pointer (some ⟨w.heap.size, 0, none⟩), .int .u64 150] 101)).alloc (.cells #[.pointer (some ⟨8, 76, none⟩), .pointer (some ⟨w.heap.size, 0, none⟩), .int .u64 150] 101)) (by rw [World.cell?_alloc_lt _ _ ⟨w.heap.size, 0, none⟩ (by simp; omega)]; simp)
  have st := set73 t ⟨w.heap.size + 1 + 1 + 1, 0, none⟩ n old ((((w.alloc (.cells #[.pointer (some t)] 76)).alloc (.cells #[.pointer (some ⟨8, 76, none⟩), .pointer (some ⟨w.heap.size, 0, none⟩), .int .u64 150] 101)).alloc (.cells #[.pointer (some ⟨8, 76, none⟩), .pointer (some ⟨w.heap.size, 0, none⟩), .int .u64 150] 101)).alloc (.cells #[.int .i64 n] 73))
    (by rw [World.cell?_alloc_at _ _ _ _ (by simp)]; rfl)
    (by rw [World.cell?_alloc_lt _ _ t (by simp; omega), World.cell?_alloc_lt _ _ t (by simp; omega), World.cell?_alloc_lt _ _ t (by simp; omega), World.cell?_alloc_lt _ _ t htl]; exact ht0)
    (by rw [World.frozen?_alloc_old _ _ t (by simp; omega), World.frozen?_alloc_old _ _ t (by simp; omega), World.frozen?_alloc_old _ _ t (by simp; omega), World.frozen?_alloc_old _ _ t (Nat.ne_of_lt htl)]; exact hf0)
  have hel : e.block < w.heap.size := World.block_lt_of_cell? w ⟨e.block, e.off + 1, none⟩ he1
  have he3 : (((w.alloc (.cells #[.pointer (some t)] 76)).alloc (.cells #[.pointer (some ⟨8, 76, none⟩), .pointer (some ⟨w.heap.size, 0, none⟩), .int .u64 150] 101)).alloc (.cells #[.pointer (some ⟨8, 76, none⟩), .pointer (some ⟨w.heap.size, 0, none⟩), .int .u64 150] 101)).cell? ⟨e.block, e.off + 1, none⟩ = some (.iface 73 (.int .i64 n)) := by
    rw [World.cell?_alloc_lt _ _ ⟨e.block, e.off + 1, none⟩ (by simp; omega), World.cell?_alloc_lt _ _ ⟨e.block, e.off + 1, none⟩ (by simp; omega), World.cell?_alloc_lt _ _ ⟨e.block, e.off + 1, none⟩ hel]; exact he1
  obtain ⟨eb, eo, es⟩ := e
  simp only at heb
  subst heb
  simp only at he1 he3 hel
  have HU := Lib.hid (unwrap eb eo _ _ he3)
  go_enter Tryd.func40, Tryd.ntmps40
  go_wp2
  refine wp_loop_rounds 2 ?_
  rw [rounds_succ]
  go_wp2_with (first | (refine HU.out.mono ?_; rintro e w' ⟨rfl, rfl⟩))
  rw [rounds_succ]
  go_wp2
  go_ret
  exact ⟨rfl, rfl⟩
end Go.Proofs.YtkjdmbbaacjpmaaDoor.As
end
section
namespace Go.Proofs.YtkjdmbbaacjpmaaDoor.Reader
open Go.RowKit Go.Proofs.YtkjdmbbaacjpmaaDoor.Scan Go.Proofs.YtkjdmbbaacjpmaaDoorW.PrintWords Go.Proofs.YtkjdmbbaacjpmaaDoorW.PrintLast Go.Proofs.YtkjdmbbaacjpmaaDoor.R
set_option linter.unusedVariables false
set_option linter.unusedSimpArgs false
theorem read_calls (A : Option Addr) (c : Nat) (xs : List Int) (w : World) (h : At w A c xs) (HT : C.Tab w) :
    Calls Tryd.prog 39 #[.slice A xs.length c] w (readPost w (readP xs)) := by
  unfold readP
  cases hx : headP xs with
  | none => exact read_head A c xs w h HT hx
  | some p =>
    obtain ⟨⟨d, n⟩, r⟩ := p
    exact read_body A c xs r d n _ w h HT hx rfl
def parseP (xs : List Int) : Int × Int × List S50 × Int × Int :=
  match readP xs with
  | .ok ((d, n), l) => (d, n, l, 0, 0)
  | .error (c, k) => (0, 0, [], c, k)
def Ety (w : World) : Prop := w.cell? ⟨0, 0, none⟩ = some (.iface 119 (.agg #[.pointer (some ⟨8, 69, none⟩)]))
theorem Ety.below {w W : World} (h : Ety w) (hb : Below w.heap.size w W) : Ety W := (hb.cell (p := ⟨0, 0, none⟩) (World.block_lt_of_cell? w _ h)).trans h
theorem as_at' (eb tb : Nat) (old : Value) (w : World) (hg : Ety w) (ht : w.heap[tb]? = some (.cells #[old] 72 (0, 0))) :
    Calls Tryd.prog 40 #[.iface 72 (.pointer (some ⟨eb, 0, none⟩)), .iface 75 (.pointer (some ⟨tb, 0, none⟩))] w fun ev w' => ev = .returned (.bool true) ∧ Below (w.setCell ⟨tb, 0, none⟩ (.pointer (some ⟨eb, 0, none⟩))).heap.size (w.setCell ⟨tb, 0, none⟩ (.pointer (some ⟨eb, 0, none⟩))) w' := by
  refine (As.as_at ⟨eb, 0, none⟩ ⟨tb, 0, none⟩ old w hg (blk_cell ht 0) (blk_frozen ht 0)).mono ?_
  rintro ev w' ⟨rfl, rfl⟩
  exact ⟨rfl, below_swap (by repeat (first | exact Below.refl _ _ | apply below_alloc)) _ _⟩
theorem as_fault' (eb tb : Nat) (k n : Int) (old : Value) (w : World) (hg : Ety w) (ht : w.heap[tb]? = some (.cells #[old] 73 (0, 0))) (he : w.heap[eb]? = some (.cells #[.int .i64 k, .iface 73 (.int .i64 n)] 78 (0, 0))) :
    Calls Tryd.prog 40 #[.iface 72 (.pointer (some ⟨eb, 0, none⟩)), .iface 76 (.pointer (some ⟨tb, 0, none⟩))] w fun ev w' => ev = .returned (.bool true) ∧ Below (w.setCell ⟨tb, 0, none⟩ (.int .i64 n)).heap.size (w.setCell ⟨tb, 0, none⟩ (.int .i64 n)) w' := by
  refine (As.as_fault ⟨eb, 0, none⟩ ⟨tb, 0, none⟩ k n old w hg (blk_cell ht 0) (blk_frozen ht 0) rfl (blk_cell he 1)).mono ?_
  rintro ev w' ⟨rfl, rfl⟩
  exact ⟨rfl, below_swap (by repeat (first | exact Below.refl _ _ | apply below_alloc)) _ _⟩
def parsePost (w : World) (p : Int × Int × List S50 × Int × Int) (e : Ending) (w' : World) : Prop :=
  ∃ v, e = .returned (.tuple #[.agg #[.int .i64 p.1, .int .i64 p.2.1, v], .int .i64 p.2.2.2.1, .int .i64 p.2.2.2.2]) ∧ Kd.R k50 50 w' w.heap.size (fun _ => True) v p.2.2.1 ∧ Below w.heap.size w w'
theorem readPost_ok' {w w' : World} {e : Ending} {d n : Int} {l : List S50} (h : readPost w (.ok ((d, n), l)) e w') : ∃ Av cv, e = .returned (.tuple #[.agg #[.int .i64 d, .int .i64 n, .slice Av l.length cv], .nilIface]) ∧ Kd.R k50 50 w' w.heap.size (fun _ => True) (.slice Av l.length cv) l ∧ Below w.heap.size w w' := by
  obtain ⟨v, he, hR, hb⟩ := h
  obtain ⟨Av, cv, rfl⟩ := Kd.R_slice hR
  exact ⟨Av, cv, he, hR, hb⟩
theorem R_fin {W : World} {base rb : Nat} {v : Value} {l : List S50} {cs : Array Value} (h : Kd.R k50 50 W base (fun _ => True) v l) (hb : W.heap[rb]? = some (.cells cs 32 (0, 0))) (a b u : Value) :
    Kd.R k50 50 (((W.setCell ⟨rb, 0, none⟩ a).setCell ⟨rb, 1, none⟩ b).setCell ⟨rb, 2, none⟩ u) base (fun _ => True) v l :=
  Kd.R_set (Kd.R_set (Kd.R_set h hb (by decide) 0 a) (blk_set hb 0 a) (by decide) 1 b) (blk_set (blk_set hb 0 a) 1 b) (by decide) 2 u
set_option maxRecDepth 100000 in
theorem parse_ok (A : Option Addr) (c : Nat) (xs : List Int) (d n : Int) (l : List S50) (w : World) (h : At w A c xs) (HT : C.Tab w) (hx : readP xs = .ok ((d, n), l)) :
    Calls Tryd.prog 24 #[.slice A xs.length c] w (parsePost w (d, n, l, 0, 0)) := by
  have hr := read_calls A c xs
  have HC : Aside0 (∀ W, Below w.heap.size w W → Calls Tryd.prog 39 #[.slice A xs.length c] W (readPost W (.ok ((d, n), l)))) := ⟨fun W hb => hx ▸ hr W (h.frame hb) (C.tab_below HT hb)⟩
  clear hr h hx HT
  generalize xs.length = yn at *
  go_enter Tryd.func24, Tryd.ntmps24
  go_wp2_with (first
    | (refine (HC.out _ ?_).mono ?_; (repeat (first | exact Below.refl _ _ | apply pw_below_drewN | apply below_alloc)); intro e w1 hP; obtain ⟨Av, cv, rfl, hR, hb⟩ := readPost_ok' hP; clear hP; have BK := Aside0.mk (blk_below (blk_new _ _) hb); have HR := Lib.hid (Kd.R_lower hR (show w.heap.size ≤ _ by simp)); clear hR; have HB := Lib.hid (below_step (below_alloc (Below.refl _ _) _) hb); clear hb; have g0_ : w1.cell? ⟨w.heap.size, 0, none⟩ = some (.int .i64 0) := blk_cell BK.out 0; have g1_ : w1.cell? ⟨w.heap.size, 1, none⟩ = some (.int .i64 0) := blk_cell BK.out 1; have g2_ : w1.cell? ⟨w.heap.size, 2, none⟩ = some (.slice none 0 0) := blk_cell BK.out 2; have z0_ := blk_frozen BK.out 0; have z1_ := blk_frozen BK.out 1; have z2_ := blk_frozen BK.out 2; have lt2_ : w.heap.size < w1.heap.size := blk_lt BK.out; have ne2_ : ¬ w.heap.size = w1.heap.size := Nat.ne_of_lt lt2_; have lta_ : w.heap.size < w1.heap.size + 1 := (by omega); have ltb_ : w.heap.size < w1.heap.size + 1 + 1 := (by omega); have nea_ : ¬ w.heap.size = w1.heap.size + 1 := (by omega); have neb_ : ¬ w.heap.size = w1.heap.size + 1 + 1 := (by omega))
    | (go_at_call 40; refine (As.as_nil _ _).mono ?_; rintro e w' ⟨rfl, rfl⟩))
  exact bodyPost_ret (v := .tuple #[.agg #[.int .i64 d, .int .i64 n, .slice Av l.length cv], .int .i64 0, .int .i64 0]) (by simp [results, Tryd.results24, go_sem, g0_, g1_, g2_, lt2_, ne2_, lta_, ltb_, nea_, neb_]) rfl
    ⟨.slice Av l.length cv, rfl, (by (with_reducible repeat (first | apply Kd.R_alloc | apply Kd.R_drewN | apply Kd.R_drew)); exact R_fin HR.out BK.out _ _ _), (by repeat (first | exact HB.out | apply below_alloc | apply pw_below_drewN | refine below_set ?_ (Nat.le_refl _)))⟩
structure PS (w W : World) (t7 t8 eb : Nat) (v7 v8 : Value) (k q : Int) : Prop where
  bel : Below w.heap.size w W
  res : W.heap[w.heap.size]? = some (.cells #[.int .i64 0, .int .i64 0, .slice none 0 0] 32 (0, 0))
  b7 : W.heap[t7]? = some (.cells #[v7] 72 (0, 0))
  b8 : W.heap[t8]? = some (.cells #[v8] 73 (0, 0))
  be : W.heap[eb]? = some (.cells #[.int .i64 k, .iface 73 (.int .i64 q)] 78 (0, 0))
  ety : Ety W
  g7 : w.heap.size < t7
  g8 : w.heap.size < t8
theorem PS.start {w w1 : World} {eb : Nat} {k q : Int} (b : Obj) (hb : Below w.heap.size w w1) (hr : w1.heap[w.heap.size]? = some (.cells #[.int .i64 0, .int .i64 0, .slice none 0 0] 32 (0, 0))) (he : w1.heap[eb]? = some (.cells #[.int .i64 k, .iface 73 (.int .i64 q)] 78 (0, 0))) (hg : Ety w) :
    PS w (((w1.alloc b).alloc (.cells #[.pointer none] 72)).alloc (.cells #[.int .i64 0] 73)) (w1.heap.size + 1) (w1.heap.size + 1 + 1) eb (.pointer none) (.int .i64 0) k q := by
  have hlt := blk_lt hr
  refine ⟨below_alloc (below_alloc (below_alloc hb _) _) _, blk_alloc (blk_alloc (blk_alloc hr _) _) _, blk_alloc (blk_new' _ _ _ (by simp)) _, blk_new' _ _ _ (by simp), blk_alloc (blk_alloc (blk_alloc he _) _) _, hg.below (below_alloc (below_alloc (below_alloc hb _) _) _), by omega, by omega⟩
theorem PS.set7 {w W W2 : World} {t7 t8 eb : Nat} {v7 v8 : Value} {k q : Int} (h : PS w W t7 t8 eb v7 v8 k q) (u : Value) (hb : Below (W.setCell ⟨t7, 0, none⟩ u).heap.size (W.setCell ⟨t7, 0, none⟩ u) W2) : PS w W2 t7 t8 eb u v8 k q := by
  have e0 : Ety (W.setCell ⟨t7, 0, none⟩ u) := by
    have := h.ety
    unfold Ety at this ⊢
    rw [World.cell?_setCell_far _ _ _ _ (show t7 ≠ 0 by have := h.g7; omega)]
    exact this
  exact ⟨below_step (below_set h.bel (Nat.le_of_lt h.g7)) hb, blk_below (blk_far h.res (Nat.ne_of_lt h.g7) _) hb, blk_below (blk_put h.b7 0 _ rfl) hb, blk_below (blk_far h.b8 (blk_ne h.b8 h.b7 (by decide)) _) hb, blk_below (blk_far h.be (blk_ne h.be h.b7 (by decide)) _) hb, e0.below hb, h.g7, h.g8⟩
theorem PS.set8 {w W W2 : World} {t7 t8 eb : Nat} {v7 v8 : Value} {k q : Int} (h : PS w W t7 t8 eb v7 v8 k q) (u : Value) (hb : Below (W.setCell ⟨t8, 0, none⟩ u).heap.size (W.setCell ⟨t8, 0, none⟩ u) W2) : PS w W2 t7 t8 eb v7 u k q := by
  have e0 : Ety (W.setCell ⟨t8, 0, none⟩ u) := by
    have := h.ety
    unfold Ety at this ⊢
    rw [World.cell?_setCell_far _ _ _ _ (show t8 ≠ 0 by have := h.g8; omega)]
    exact this
  exact ⟨below_step (below_set h.bel (Nat.le_of_lt h.g8)) hb, blk_below (blk_far h.res (Nat.ne_of_lt h.g8) _) hb, blk_below (blk_far h.b7 (blk_ne h.b7 h.b8 (by decide)) _) hb, blk_below (blk_put h.b8 0 _ rfl) hb, blk_below (blk_far h.be (blk_ne h.be h.b8 (by decide)) _) hb, e0.below hb, h.g7, h.g8⟩
set_option maxRecDepth 100000 in
theorem parse_err (A : Option Addr) (c : Nat) (xs : List Int) (q k : Int) (w : World) (h : At w A c xs) (HT : C.Tab w) (HG : Ety w) (hx : readP xs = .error (q, k)) :
    Calls Tryd.prog 24 #[.slice A xs.length c] w (parsePost w (0, 0, [], q, k)) := by
  have hr := read_calls A c xs
  have HC : Aside0 (∀ W, Below w.heap.size w W → Calls Tryd.prog 39 #[.slice A xs.length c] W (readPost W (.error (q, k)))) := ⟨fun W hb => hx ▸ hr W (h.frame hb) (C.tab_below HT hb)⟩
  have HE := Lib.hid HG
  clear hr h hx HT HG
  generalize xs.length = yn at *
  go_enter Tryd.func24, Tryd.ntmps24
  go_wp2_with (first
    | (go_at_call 39; (with_reducible refine (HC.out _ ?_).mono ?_); (repeat (first | exact Below.refl _ _ | apply pw_below_drewN | apply below_alloc)); intro e w1 hP; obtain ⟨eb, rfl, he, hge, hb⟩ := hP; have HS := Lib.hid (PS.start (.cells #[.int .i64 0, .int .i64 0, .slice none 0 0] 32) (below_step (below_alloc (Below.refl _ _) _) hb) (blk_below (blk_new _ _) hb) he HE.out); clear he hge hb)
    | (go_at_call 40; (with_reducible refine (as_at' eb (w1.heap.size + 1) _ _ HS.out.ety HS.out.b7).mono ?_); rintro e w2 ⟨rfl, hb⟩; have HS2 := Lib.hid (HS.out.set7 _ hb); clear hb)
    | (go_at_call 40; (with_reducible refine (as_fault' eb (w1.heap.size + 1 + 1) _ _ _ _ HS2.out.ety HS2.out.b8 HS2.out.be).mono ?_); rintro e w3 ⟨rfl, hb⟩; have HS3 := Lib.hid (HS2.out.set8 _ hb); clear hb; have BK := Aside0.mk HS3.out.res; have g0_ : w3.cell? ⟨w.heap.size, 0, none⟩ = some (.int .i64 0) := blk_cell BK.out 0; have g1_ : w3.cell? ⟨w.heap.size, 1, none⟩ = some (.int .i64 0) := blk_cell BK.out 1; have g2_ : w3.cell? ⟨w.heap.size, 2, none⟩ = some (.slice none 0 0) := blk_cell BK.out 2; have z0_ := blk_frozen BK.out 0; have z1_ := blk_frozen BK.out 1; have z2_ := blk_frozen BK.out 2; have lt2_ : w.heap.size < w3.heap.size := blk_lt BK.out; have ne2_ : ¬ w.heap.size = w3.heap.size := Nat.ne_of_lt lt2_; have nea_ := Nat.ne_of_lt HS3.out.g7; have neb_ := Nat.ne_of_lt HS3.out.g8; have nec_ := blk_ne HS3.out.res HS3.out.be (by decide); have nea2_ := Ne.symm nea_; have neb2_ := Ne.symm neb_; have nec2_ := Ne.symm nec_; have t7_ := blk_cell HS3.out.b7 0; have t8_ := blk_cell HS3.out.b8 0; have te_ := blk_cell HS3.out.be 0; simp only [List.getElem?_toArray, List.getElem?_cons_zero] at t7_ t8_ te_))
  go_region
  go_wp2
  exact bodyPost_ret (v := .tuple #[.agg #[.int .i64 0, .int .i64 0, .slice none 0 0], .int .i64 q, .int .i64 k]) (by simp [results, Tryd.results24, go_sem, g0_, g1_, g2_, lt2_, ne2_]) rfl
    ⟨.slice none 0 0, rfl, Kd.R_nil _ _ _ _ _, (by repeat (first | exact HS3.out.bel | apply Below.drew | apply below_alloc | apply pw_below_drewN | refine below_set ?_ (Nat.le_refl _)))⟩
theorem parse_calls (A : Option Addr) (c : Nat) (xs : List Int) (w : World) (h : At w A c xs) (HT : C.Tab w) (HG : Ety w) :
    Calls Tryd.prog 24 #[.slice A xs.length c] w (parsePost w (parseP xs)) := by
  unfold parseP
  cases hx : readP xs with
  | ok p =>
    obtain ⟨⟨d, n⟩, l⟩ := p
    exact parse_ok A c xs d n l w h HT hx
  | error p =>
    obtain ⟨q, k⟩ := p
    exact parse_err A c xs q k w h HT HG hx
end Go.Proofs.YtkjdmbbaacjpmaaDoor.Reader
end
section
namespace Go.Proofs.YtkjdmbbaacjpmaaDoor.Reads
open Go.RowKit Go.Proofs.YtkjdmbbaacjpmaaDoor.R Go.Proofs.YtkjdmbbaacjpmaaDoor.Scan Go.Proofs.YtkjdmbbaacjpmaaDoor.Reader Go.Proofs.YtkjdmbbaacjpmaaDoor.Num Go.Proofs.YtkjdmbbaacjpmaaDoor.DDigits Go.Proofs.YtkjdmbbaacjpmaaDoorW.PrintWords
set_option linter.unusedVariables false
set_option linter.unusedSimpArgs false
def Dg (x : Int) : Prop := 0 ≤ x ∧ x ≤ 9
theorem valid7 {a0 a1 a2 a3 a4 a5 a6 : Int} (h0 : Dg a0) (h1 : Dg a1) (h2 : Dg a2) (h3 : Dg a3) (h4 : Dg a4) (h5 : Dg a5) (h6 : Dg a6) :
    validB (strOfNums [48 + a0, 48 + a1, 48 + a2, 48 + a3, 48 + a4, 48 + a5, 48 + a6]) = ((a0 + dbl a1 + a2 + dbl a3 + a4 + dbl a5 + a6) % 10 == 0) := by
  unfold Dg at *
  have hb : bytesOf (strOfNums [48 + a0, 48 + a1, 48 + a2, 48 + a3, 48 + a4, 48 + a5, 48 + a6]) = [48 + a0, 48 + a1, 48 + a2, 48 + a3, 48 + a4, 48 + a5, 48 + a6] := by
    refine bytesOf_str _ fun x hx => ?_
    simp only [List.mem_cons, List.not_mem_nil, or_false] at hx
    rcases hx with rfl | rfl | rfl | rfl | rfl | rfl | rfl <;> omega
  have hd : digitsB (strOfNums [48 + a0, 48 + a1, 48 + a2, 48 + a3, 48 + a4, 48 + a5, 48 + a6]) = true := by
    unfold digitsB
    rw [hb, List.all_eq_true]
    intro x hx
    simp only [List.mem_cons, List.not_mem_nil, or_false] at hx
    rw [decide_eq_true_eq]
    rcases hx with rfl | rfl | rfl | rfl | rfl | rfl | rfl <;> omega
  have hl : behind [48 + a0, 48 + a1, 48 + a2, 48 + a3, 48 + a4, 48 + a5, 48 + a6] = [a6, a5, a4, a3, a2, a1, a0] := by
    simp only [behind, List.map_cons, List.map_nil, List.reverse_cons, List.reverse_nil, List.nil_append, List.cons_append]
    have e : ∀ x : Int, 48 + x - 48 = x := fun x => by omega
    simp only [e]
  unfold validB
  rw [hd, hb, hl, strOfNums_size]
  simp only [List.length_cons, List.length_nil, Bool.and_true, lsum, Bool.not_false, Bool.not_true, if_true, Bool.false_eq_true, if_false]
  rw [decide_eq_true (by omega), Bool.true_and]
  rw [show a6 + (dbl a5 + (a4 + (dbl a3 + (a2 + (dbl a1 + (a0 + 0)))))) = a0 + dbl a1 + a2 + dbl a3 + a4 + dbl a5 + a6 by omega]
theorem seven_of {l : List Int} (h : l.length = 7) : ∃ a b c d e f g, l = [a, b, c, d, e, f, g] := by
  match l, h with
  | [a, b, c, d, e, f, g], _ => exact ⟨a, b, c, d, e, f, g, rfl⟩
theorem valid_check {t : List Int} (hl : 12 ≤ t.length) (hd : ((t.drop 5).take 7).all isDig = true) :
    validB (strOfNums ((t.drop 5).take 7)) = (fieldP t 11 1 == digitOf (fieldP t 5 6)) := by
  have h7 : ((t.drop 5).take 7).length = 7 := by rw [List.length_take, List.length_drop]; omega
  have e6 : (t.drop 5).take 6 = ((t.drop 5).take 7).take 6 := by rw [List.take_take]; rfl
  have e1 : (t.drop 11).take 1 = ((t.drop 5).take 7).drop 6 := by rw [List.drop_take, List.drop_drop]
  unfold fieldP
  rw [e6, e1]
  obtain ⟨c0, c1, c2, c3, c4, c5, c6, hc⟩ := seven_of h7
  rw [hc] at hd ⊢
  clear hc e6 e1 h7 hl
  simp only [List.all_cons, List.all_nil, Bool.and_true, Bool.and_eq_true, isDig, decide_eq_true_eq] at hd
  obtain ⟨d0, d1, d2, d3, d4, d5, d6⟩ := hd
  obtain ⟨a0, rfl⟩ : ∃ a : Nat, c0 = 48 + (a : Int) := ⟨(c0 - 48).toNat, by omega⟩
  obtain ⟨a1, rfl⟩ : ∃ a : Nat, c1 = 48 + (a : Int) := ⟨(c1 - 48).toNat, by omega⟩
  obtain ⟨a2, rfl⟩ : ∃ a : Nat, c2 = 48 + (a : Int) := ⟨(c2 - 48).toNat, by omega⟩
  obtain ⟨a3, rfl⟩ : ∃ a : Nat, c3 = 48 + (a : Int) := ⟨(c3 - 48).toNat, by omega⟩
  obtain ⟨a4, rfl⟩ : ∃ a : Nat, c4 = 48 + (a : Int) := ⟨(c4 - 48).toNat, by omega⟩
  obtain ⟨a5, rfl⟩ : ∃ a : Nat, c5 = 48 + (a : Int) := ⟨(c5 - 48).toNat, by omega⟩
  obtain ⟨a6, rfl⟩ : ∃ a : Nat, c6 = 48 + (a : Int) := ⟨(c6 - 48).toNat, by omega⟩
  rw [valid7 ⟨by omega, by omega⟩ ⟨by omega, by omega⟩ ⟨by omega, by omega⟩ ⟨by omega, by omega⟩ ⟨by omega, by omega⟩ ⟨by omega, by omega⟩ ⟨by omega, by omega⟩]
  simp only [List.take_succ_cons, List.take_zero, List.drop_succ_cons, List.drop_zero, valFrom]
  obtain ⟨n, hn⟩ : ∃ n : Nat, n = 100000 * a0 + 10000 * a1 + 1000 * a2 + 100 * a3 + 10 * a4 + a5 := ⟨_, rfl⟩
  have hv : (10 * (10 * (10 * (10 * (10 * (10 * 0 + (48 + (a0 : Int) - 48)) + (48 + (a1 : Int) - 48)) + (48 + (a2 : Int) - 48)) + (48 + (a3 : Int) - 48)) + (48 + (a4 : Int) - 48)) + (48 + (a5 : Int) - 48)) = (n : Int) := by omega
  rw [hv]
  have hr : rdig 6 n = [(a5 : Int), a4, a3, a2, a1, a0] := by
    simp only [rdig]
    have x0 : n % 10 = a5 := by omega
    have x1 : n / 10 % 10 = a4 := by omega
    have x2 : n / 10 / 10 % 10 = a3 := by omega
    have x3 : n / 10 / 10 / 10 % 10 = a2 := by omega
    have x4 : n / 10 / 10 / 10 / 10 % 10 = a1 := by omega
    have x5 : n / 10 / 10 / 10 / 10 / 10 % 10 = a0 := by omega
    rw [x0, x1, x2, x3, x4, x5]
  have hok : okN (n : Int) = true := by unfold okN; rw [decide_eq_true_eq]; omega
  have hdg : digitOf (n : Int) = chk n := by unfold digitOf; rw [if_pos hok]
  rw [hdg]
  unfold chk
  rw [Int.toNat_natCast, hr]
  simp only [lsum, Bool.not_true, Bool.not_false, if_true, Bool.false_eq_true, if_false]
  have b1 := dbl_range (d := (a1 : Int)) (by omega) (by omega)
  have b3 := dbl_range (d := (a3 : Int)) (by omega) (by omega)
  have b5 := dbl_range (d := (a5 : Int)) (by omega) (by omega)
  generalize dbl (a1 : Int) = q1 at *
  generalize dbl (a3 : Int) = q3 at *
  generalize dbl (a5 : Int) = q5 at *
  clear hv hr hok hdg hn
  rw [Bool.eq_iff_iff, beq_iff_eq, beq_iff_eq]
  omega
end Go.Proofs.YtkjdmbbaacjpmaaDoor.Reads
end
