/- For every list of lengths the program's Merge and the document's Merge give the same turns, whatever is written over in between: the law FrontMerges over numbers and lists. Conditions: none beyond the given statement's. -/
import Derived.Test.YtfjpgiepkdpoeaaPFrontMergesx3
namespace Go.Proofs.Ytfjpgiepkdpoeaa.Pure
open Go.RowKit Go.Proofs.Ytfjpgiepkdpoeaa.PFrontMerges Go.Proofs.YtfjpgiepkdpoeaaW.PrintWords Go.Proofs.YtfjpgiepkdpoeaaW.PrintLast Go.Proofs.YtfjpgiepkdpoeaaW.PrintMore

/-- how often each client was served behind place i of round r -/
def dn : List Int → Int → Nat → List Int
  | [], _, _ => []
  | x :: t, r, 0 => min x r :: dn t r 0
  | x :: t, r, i + 1 => min x (r + 1) :: dn t r i

theorem dn_length : ∀ (l : List Int) (r : Int) (i : Nat), (dn l r i).length = l.length
  | [], _, _ => rfl
  | _ :: t, r, 0 => by simp [dn, dn_length t r 0]
  | _ :: t, r, i + 1 => by simp [dn, dn_length t r i]

theorem dn_lo : ∀ (l : List Int) (r : Int) (i j : Nat), j < i → j < l.length → (dn l r i).getD j 0 = min (l.getD j 0) (r + 1)
  | [], _, _, _, _, h => by simp at h
  | _ :: _, _, 0, _, h, _ => by omega
  | x :: t, r, i + 1, 0, _, _ => by simp [dn]
  | x :: t, r, i + 1, j + 1, h, h' => by
    simp only [dn, List.getD_cons_succ]
    exact dn_lo t r i j (by omega) (by simpa using h')

theorem dn_hi : ∀ (l : List Int) (r : Int) (i j : Nat), i ≤ j → j < l.length → (dn l r i).getD j 0 = min (l.getD j 0) r
  | [], _, _, _, _, h => by simp at h
  | x :: t, r, 0, 0, _, _ => by simp [dn]
  | x :: t, r, 0, j + 1, _, h' => by
    simp only [dn, List.getD_cons_succ]
    exact dn_hi t r 0 j (by omega) (by simpa using h')
  | x :: t, r, i + 1, 0, h, _ => by omega
  | x :: t, r, i + 1, j + 1, h, h' => by
    simp only [dn, List.getD_cons_succ]
    exact dn_hi t r i j (by omega) (by simpa using h')

theorem dn_set : ∀ (l : List Int) (r : Int) (i : Nat), i < l.length → r < l.getD i 0 → (dn l r i).set i (r + 1) = dn l r (i + 1)
  | [], _, _, h, _ => by simp at h
  | x :: t, r, 0, _, h => by
    have : min x (r + 1) = r + 1 := by have : r < x := by simpa using h
                                       omega
    simp [dn, this]
  | x :: t, r, i + 1, h, h' => by
    simp only [dn, List.set_cons_succ]
    rw [dn_set t r i (by simpa using h) (by simpa using h')]

theorem dn_skip : ∀ (l : List Int) (r : Int) (i : Nat), l.getD i 0 ≤ r → dn l r (i + 1) = dn l r i
  | [], _, _, _ => rfl
  | x :: t, r, 0, h => by
    have hx : x ≤ r := by simpa using h
    have : min x (r + 1) = min x r := by omega
    simp [dn, this]
  | x :: t, r, i + 1, h => by
    have := dn_skip t r i (by simpa using h)
    simp only [dn, this]

theorem dn_turn : ∀ (l : List Int) (r : Int), dn l r l.length = dn l (r + 1) 0
  | [], _ => rfl
  | x :: t, r => by simp [dn, dn_turn t r]

theorem dn_zero : ∀ (l : List Int), (∀ x ∈ l, 0 ≤ x) → dn l 0 0 = List.replicate l.length 0
  | [], _ => rfl
  | x :: t, h => by
    have hx : min x 0 = 0 := by have := h x (by simp); omega
    simp [dn, hx, dn_zero t (fun y hy => h y (by simp [hy])), List.replicate_succ]

theorem dn_full : ∀ (l : List Int) (m : Int), (∀ x ∈ l, x ≤ m) → dn l m 0 = l
  | [], _, _ => rfl
  | x :: t, m, h => by
    have hx : min x m = x := by have := h x (by simp); omega
    simp [dn, hx, dn_full t m (fun y hy => h y (by simp [hy]))]

theorem dn_le : ∀ (l : List Int) (r : Int) (i : Nat), (dn l r i).sum ≤ l.sum
  | [], _, _ => by simp [dn]
  | x :: t, r, 0 => by have := dn_le t r 0; simp only [dn, List.sum_cons]; omega
  | x :: t, r, i + 1 => by have := dn_le t r i; simp only [dn, List.sum_cons]; omega

theorem dn_lt : ∀ (l : List Int) (r : Int) (i : Nat), i < l.length → r < l.getD i 0 → (dn l r i).sum < l.sum
  | [], _, _, h, _ => by simp at h
  | x :: t, r, 0, _, h => by
    have := dn_le t r 0
    have : r < x := by simpa using h
    simp only [dn, List.sum_cons]; omega
  | x :: t, r, i + 1, h, h' => by
    have := dn_lt t r i (by simpa using h) (by simpa using h')
    simp only [dn, List.sum_cons]; omega

theorem dn_succ : ∀ (l : List Int) (r : Int) (i : Nat), i < l.length → r < l.getD i 0 → (dn l r (i + 1)).sum = (dn l r i).sum + 1
  | [], _, _, h, _ => by simp at h
  | x :: t, r, 0, _, h => by
    have : r < x := by simpa using h
    simp only [dn, List.sum_cons]; omega
  | x :: t, r, i + 1, h, h' => by
    have := dn_succ t r i (by simpa using h) (by simpa using h')
    simp only [dn, List.sum_cons]; omega

theorem sum_le : ∀ (l : List Int), (∀ x ∈ l, x ≤ 10000) → l.sum ≤ 10000 * l.length
  | [], _ => by simp
  | x :: t, h => by
    have := sum_le t (fun y hy => h y (by simp [hy]))
    have := h x (by simp)
    simp only [List.sum_cons, List.length_cons]; omega

theorem sum_nonneg : ∀ (l : List Int), (∀ x ∈ l, 0 ≤ x) → 0 ≤ l.sum
  | [], _ => by simp
  | x :: t, h => by
    have := sum_nonneg t (fun y hy => h y (by simp [hy]))
    have := h x (by simp)
    simp only [List.sum_cons]; omega

theorem rd_nat (l : List Int) (j : Nat) : rd l (j : Int) = l.getD j 0 := by unfold rd; simp

theorem getD_mem (l : List Int) (j : Nat) (h : j < l.length) : l.getD j 0 ∈ l := by
  rw [List.getD_eq_getElem?_getD, List.getElem?_eq_getElem h]; exact List.getElem_mem h

/-- the numbers fit -/
def Fit (l : List Int) : Prop := l.length ≤ 16 ∧ ∀ x ∈ l, 0 ≤ x ∧ x ≤ 10000

theorem wrN (j : Nat) (h : j ≤ 17592186044416) : wrap64 ((j : Int) + 1) = ((j + 1 : Nat) : Int) := by unfold wrap64; omega
theorem wr {i : Int} (h0 : 0 ≤ i) (h : i ≤ 17592186044416) : wrap64 (i + 1) = i + 1 := by unfold wrap64; omega

/-- the reference's search: behind place i it stands at i -/
theorem scan_hi (l : List Int) (hf : Fit l) (out R : List Int) (tot : Int) (r : Int) (hr0 : 0 ≤ r) (i : Nat) (hi : i < l.length) (hr : r < l.getD i 0)
    (next : Ev (fun k => arrearsref28_Merge.l1 k l tot (dn l r (i + 1)) (out ++ [(i : Int)])) R) (ho : out.length < 1000000) (d : Nat) :
    ∀ j : Nat, i < j → j + d = l.length → Ev (fun k => arrearsref28_Merge.l2 k l tot (dn l r i) out i j) R := by
  have hl := dn_length l r i
  have h16 := hf.1
  have e2 : rd (dn l r i) (i : Int) = min (l.getD i 0) r := by rw [rd_nat, dn_hi l r i i (by omega) hi]
  induction d with
  | zero =>
    intro j hj hd
    refine Ev.step (fun k => ?_) next
    have e : wrap64 (rd (dn l r i) (i : Int) + 1) = r + 1 := by
      have hm := (hf.2 _ (getD_mem l i hi)).2
      rw [e2, show min (l.getD i 0) r = r by omega]
      exact wr hr0 (by omega)
    simp only [arrearsref28_Merge.l2]
    rw [if_neg (by omega), if_pos (by omega), if_pos (by omega), if_pos (by omega), e, Int.toNat_natCast, dn_set l r i hi hr]
  | succ d ih =>
    intro j hj hd
    have hjl : j < l.length := by omega
    have ih := ih (j + 1) (by omega) (by omega)
    have e1 : rd (dn l r i) (j : Int) = min (l.getD j 0) r := by rw [rd_nat, dn_hi l r i j (by omega) hjl]
    have e3 : rd l (j : Int) = l.getD j 0 := rd_nat l j
    refine Ev.step (fun k => ?_) ih
    simp only [arrearsref28_Merge.l2]
    rw [if_pos (by omega), if_pos (by omega), if_pos (by omega), wrN j (by omega), e1, e2, e3]
    by_cases c : min (l.getD j 0) r < l.getD j 0
    · rw [if_pos c, if_neg (by omega), if_pos (by omega), if_pos (by omega), if_neg (by omega)]
    · rw [if_neg c]

/-- .. and ahead of it at nothing, or at one that was served once more -/
theorem scan_lo (l : List Int) (hf : Fit l) (out R : List Int) (tot : Int) (r : Int) (hr0 : 0 ≤ r) (i : Nat) (hi : i < l.length) (hr : r < l.getD i 0)
    (next : Ev (fun k => arrearsref28_Merge.l1 k l tot (dn l r (i + 1)) (out ++ [(i : Int)])) R) (ho : out.length < 1000000) (d : Nat) :
    ∀ (j : Nat) (x : Int), j + d = i → (x = -1 ∨ (0 ≤ x ∧ x < j ∧ rd (dn l r i) x = r + 1)) → Ev (fun k => arrearsref28_Merge.l2 k l tot (dn l r i) out x j) R := by
  have hl := dn_length l r i
  have h16 := hf.1
  induction d with
  | zero =>
    intro j x hd hx
    obtain rfl : j = i := by omega
    have e2 : rd (dn l r j) (j : Int) = min (l.getD j 0) r := by rw [rd_nat, dn_hi l r j j (by omega) hi]
    have e3 : rd l (j : Int) = l.getD j 0 := rd_nat l j
    have nx := scan_hi l hf out R tot r hr0 j hi hr next ho (l.length - (j + 1)) (j + 1) (by omega) (by omega)
    refine Ev.step (fun k => ?_) nx
    simp only [arrearsref28_Merge.l2]
    rw [if_pos (by omega), if_pos (by omega), if_pos (by omega), wrN j (by omega), e2, e3, if_pos (by omega)]
    rcases hx with hx | ⟨h0, h1, h2⟩
    · rw [if_pos (by omega)]
    · rw [if_neg (by omega), if_pos h0, if_pos (by omega), h2, if_pos (by omega)]
  | succ d ih =>
    intro j x hd hx
    have hjl : j < l.length := by omega
    have e1 : rd (dn l r i) (j : Int) = min (l.getD j 0) (r + 1) := by rw [rd_nat, dn_lo l r i j (by omega) hjl]
    have e3 : rd l (j : Int) = l.getD j 0 := rd_nat l j
    by_cases c : min (l.getD j 0) (r + 1) < l.getD j 0
    · rcases hx with hx | ⟨h0, h1, h2⟩
      · have ih := ih (j + 1) j (by omega) (Or.inr ⟨by omega, by omega, by rw [e1]; omega⟩)
        refine Ev.step (fun k => ?_) ih
        simp only [arrearsref28_Merge.l2]
        rw [if_pos (by omega), if_pos (by omega), if_pos (by omega), wrN j (by omega), e1, e3, if_pos c, if_pos (by omega)]
      · have ih := ih (j + 1) x (by omega) (Or.inr ⟨h0, by omega, h2⟩)
        refine Ev.step (fun k => ?_) ih
        simp only [arrearsref28_Merge.l2]
        rw [if_pos (by omega), if_pos (by omega), if_pos (by omega), wrN j (by omega), e1, e3, if_pos c, if_neg (by omega), if_pos h0, if_pos (by omega), h2, if_neg (by omega)]
    · have ih := ih (j + 1) x (by omega) (by rcases hx with hx | ⟨h0, h1, h2⟩; exact Or.inl hx; exact Or.inr ⟨h0, by omega, h2⟩)
      refine Ev.step (fun k => ?_) ih
      simp only [arrearsref28_Merge.l2]
      rw [if_pos (by omega), if_pos (by omega), if_pos (by omega), wrN j (by omega), e1, e3, if_neg c]

/-- both from the begin of round r on: one answer -/
theorem turns (l : List Int) (hf : Fit l) (m : Int) (hm : ∀ x ∈ l, x ≤ m) (hm1 : m ≤ 10000) (a : Nat) :
    ∀ (r : Int), 0 ≤ r → (a : Int) + r = m → ∀ out : List Int, (out.length : Int) = (dn l r 0).sum →
      ∃ R : List Int, (R.length : Int) ≤ 160000 ∧ Ev (fun k => arrearsref28_Merge.l1 k l l.sum (dn l r 0) out) R ∧ Ev (fun k => front_Merge.l1 k l out m r) R := by
  have h16 := hf.1
  have hsum := sum_le l (fun x hx => (hf.2 x hx).2)
  induction a with
  | zero =>
    intro r hr0 hr out ho
    obtain rfl : r = m := by omega
    rw [dn_full l r hm] at ho ⊢
    refine ⟨out, by omega, Ev.step (fun k => ?_) (Ev.now out), Ev.step (fun k => ?_) (Ev.now out)⟩
    · simp only [arrearsref28_Merge.l1]
      rw [if_neg (by omega)]
    · simp only [front_Merge.l1]
      rw [if_neg (by omega)]
  | succ a iha =>
    intro r hr0 hr out ho
    have inner : ∀ b i : Nat, i + b = l.length → ∀ out : List Int, (out.length : Int) = (dn l r i).sum →
        ∃ R : List Int, (R.length : Int) ≤ 160000 ∧ Ev (fun k => arrearsref28_Merge.l1 k l l.sum (dn l r i) out) R ∧ Ev (fun k => front_Merge.l2 k l out r m r l l.length i) R := by
      intro b
      induction b with
      | zero =>
        intro i hb out ho
        obtain rfl : i = l.length := by omega
        rw [dn_turn] at ho ⊢
        obtain ⟨R, h1, h2, h3⟩ := iha (r + 1) (by omega) (by omega) out ho
        refine ⟨R, h1, h2, Ev.step (fun k => ?_) h3⟩
        simp only [front_Merge.l2]
        rw [if_neg (by omega), wr hr0 (by omega)]
      | succ b ihb =>
        intro i hb out ho
        have hi : i < l.length := by omega
        have hle := dn_le l r i
        have e3 : rd l (i : Int) = l.getD i 0 := rd_nat l i
        by_cases c : r < l.getD i 0
        · have hlt := dn_lt l r i hi c
          have hsu := dn_succ l r i hi c
          obtain ⟨R, h1, h2, h3⟩ := ihb (i + 1) (by omega) (out ++ [(i : Int)]) (by rw [List.length_append]; simp only [List.length_cons, List.length_nil]; omega)
          refine ⟨R, h1, Ev.step (fun k => ?_) (scan_lo l hf out R l.sum r hr0 i hi c h2 (by omega) i 0 (-1) (by omega) (Or.inl rfl)), Ev.step (fun k => ?_) h3⟩
          · simp only [arrearsref28_Merge.l1]
            rw [if_pos (by omega)]; rfl
          · simp only [front_Merge.l2]
            rw [if_pos (by omega), if_pos (by omega), if_pos (by omega), e3, if_pos (by omega), if_pos (by omega), wrN i (by omega)]
        · have hsk := dn_skip l r i (by omega)
          obtain ⟨R, h1, h2, h3⟩ := ihb (i + 1) (by omega) out (by rw [hsk]; exact ho)
          rw [hsk] at h2
          refine ⟨R, h1, h2, Ev.step (fun k => ?_) h3⟩
          simp only [front_Merge.l2]
          rw [if_pos (by omega), if_pos (by omega), if_pos (by omega), e3, if_neg (by omega), wrN i (by omega)]
    obtain ⟨R, h1, h2, h3⟩ := inner l.length 0 (by omega) out ho
    refine ⟨R, h1, h2, Ev.step (fun k => ?_) h3⟩
    simp only [front_Merge.l1]
    rw [if_pos (by omega)]; rfl

/-- the program's first loop where all fits -/
theorem most (l : List Int) (hf : Fit l) (d : Nat) : ∀ (j : Nat) (x : Int), j + d = l.length → 0 ≤ x → x ≤ 10000 → (∀ y ∈ l.take j, y ≤ x) →
    ∃ m : Int, 0 ≤ m ∧ m ≤ 10000 ∧ (∀ y ∈ l, y ≤ m) ∧ ∀ R, Ev (fun k => front_Merge.l1 k l [] m 0) R → Ev (fun k => front_Merge.l0 k l x l l.length j) R := by
  have h16 := hf.1
  induction d with
  | zero =>
    intro j x hd h0 h1 hx
    refine ⟨x, h0, h1, by rwa [List.take_of_length_le (by omega)] at hx, fun R hR => Ev.step (fun k => ?_) hR⟩
    simp only [front_Merge.l0]
    rw [if_neg (by omega)]
  | succ d ih =>
    intro j x hd h0 h1 hx
    have hj : j < l.length := by omega
    have hb := hf.2 _ (getD_mem l j hj)
    have e3 : rd l (j : Int) = l.getD j 0 := rd_nat l j
    obtain ⟨m, a1, a2, a3, a4⟩ := ih (j + 1) (mx x (l.getD j 0)) (by omega) (by unfold mx; split <;> omega) (by unfold mx; split <;> omega) (by
      intro y hy
      rw [List.take_succ_eq_append_getElem hj, List.mem_append] at hy
      rcases hy with hy | hy
      · have := hx y hy
        unfold mx; split <;> omega
      · have hz : l.getD j 0 = l[j] := by rw [List.getD_eq_getElem?_getD, List.getElem?_eq_getElem hj]; rfl
        simp only [List.mem_singleton] at hy
        unfold mx; split <;> omega)
    refine ⟨m, a1, a2, a3, fun R hR => Ev.step (fun k => ?_) (a4 R hR)⟩
    simp only [front_Merge.l0]
    rw [if_pos (by omega), if_pos (by omega), if_pos (by omega), e3, if_neg (by omega), if_neg (by omega), wrN j (by omega)]

/-- the reference's sum -/
theorem total (l : List Int) (hf : Fit l) (R : List Int) (h : Ev (fun k => arrearsref28_Merge.l1 k l l.sum (List.replicate l.length 0) []) R) (d : Nat) :
    ∀ j : Nat, j + d = l.length → Ev (fun k => arrearsref28_Merge.l0 k l (l.take j).sum j) R := by
  have h16 := hf.1
  induction d with
  | zero =>
    intro j hd
    refine Ev.step (fun k => ?_) h
    simp only [arrearsref28_Merge.l0]
    rw [if_neg (by omega), if_pos (by omega), List.take_of_length_le (by omega), Int.toNat_natCast, if_pos (by omega)]
  | succ d ih =>
    intro j hd
    have hj : j < l.length := by omega
    have hb := hf.2 _ (getD_mem l j hj)
    have e3 : rd l (j : Int) = l.getD j 0 := rd_nat l j
    have hz : l.getD j 0 = l[j] := by rw [List.getD_eq_getElem?_getD, List.getElem?_eq_getElem hj]; rfl
    have s1 := sum_le (l.take j) (fun x hx => (hf.2 x (List.mem_of_mem_take hx)).2)
    have s2 := sum_nonneg (l.take j) (fun x hx => (hf.2 x (List.mem_of_mem_take hx)).1)
    have s3 : (l.take j).length ≤ 16 := by rw [List.length_take]; omega
    have e4 : wrap64 ((l.take j).sum + l.getD j 0) = (l.take (j + 1)).sum := by
      rw [List.take_succ_eq_append_getElem hj, List.sum_append, ← hz]
      simp only [List.sum_cons, List.sum_nil]
      unfold wrap64; omega
    refine Ev.step (fun k => ?_) (ih (j + 1) (by omega))
    simp only [arrearsref28_Merge.l0]
    rw [if_pos (by omega), if_pos (by omega), e3, e4, wrN j (by omega)]

/-- .. and its test -/
theorem fits (l : List Int) (hf : Fit l) : Ev (fun k => arrearsref28_Fits.f k l) true := by
  have h16 := hf.1
  have go : ∀ d j : Nat, j + d = l.length → Ev (fun k => arrearsref28_Fits.l0 k l j) true := by
    intro d
    induction d with
    | zero =>
      intro j hd
      refine Ev.step (fun k => ?_) (Ev.now true)
      simp only [arrearsref28_Fits.l0]
      rw [if_neg (by omega)]
    | succ d ih =>
      intro j hd
      have hj : j < l.length := by omega
      have hb := hf.2 _ (getD_mem l j hj)
      have e3 : rd l (j : Int) = l.getD j 0 := rd_nat l j
      refine Ev.step (fun k => ?_) (ih (j + 1) (by omega))
      simp only [arrearsref28_Fits.l0]
      rw [if_pos (by omega), if_pos (by omega), e3, if_neg (by omega), if_neg (by omega), wrN j (by omega)]
  refine Ev.congr (fun k => ?_) (go l.length 0 (by omega))
  unfold arrearsref28_Fits.f
  rw [if_neg (by omega)]; rfl

/-- what does not fit: both find it -/
theorem unfit (l : List Int) (h16 : l.length ≤ 16) (p : Nat) (hp : p < l.length) (hb : l.getD p 0 < 0 ∨ 10000 < l.getD p 0) (d : Nat) :
    ∀ (j : Nat) (x : Int), j + d = p → Ev (fun k => arrearsref28_Fits.l0 k l j) false ∧ Ev (fun k => front_Merge.l0 k l x l l.length j) [] := by
  induction d with
  | zero =>
    intro j x hd
    obtain rfl : j = p := by omega
    have e3 : rd l (j : Int) = l.getD j 0 := rd_nat l j
    refine ⟨Ev.step (fun k => ?_) (Ev.now false), Ev.step (fun k => ?_) (Ev.now [])⟩
    · simp only [arrearsref28_Fits.l0]
      rw [if_pos (by omega), if_pos (by omega), e3]
      rcases hb with hb | hb
      · rw [if_pos hb]
      · rw [if_neg (by omega), if_pos (by omega)]
    · simp only [front_Merge.l0]
      rw [if_pos (by omega), if_pos (by omega), if_pos (by omega), e3]
      rcases hb with hb | hb
      · rw [if_pos hb]
      · rw [if_neg (by omega), if_pos (by omega)]
  | succ d ih =>
    intro j x hd
    have e3 : rd l (j : Int) = l.getD j 0 := rd_nat l j
    by_cases c1 : l.getD j 0 < 0
    · refine ⟨Ev.step (fun k => ?_) (Ev.now false), Ev.step (fun k => ?_) (Ev.now [])⟩
      · simp only [arrearsref28_Fits.l0]
        rw [if_pos (by omega), if_pos (by omega), e3, if_pos c1]
      · simp only [front_Merge.l0]
        rw [if_pos (by omega), if_pos (by omega), if_pos (by omega), e3, if_pos c1]
    by_cases c2 : 10000 < l.getD j 0
    · refine ⟨Ev.step (fun k => ?_) (Ev.now false), Ev.step (fun k => ?_) (Ev.now [])⟩
      · simp only [arrearsref28_Fits.l0]
        rw [if_pos (by omega), if_pos (by omega), e3, if_neg c1, if_pos (by omega)]
      · simp only [front_Merge.l0]
        rw [if_pos (by omega), if_pos (by omega), if_pos (by omega), e3, if_neg c1, if_pos (by omega)]
    · have i1 := (ih (j + 1) (mx x (l.getD j 0)) (by omega)).1
      have i2 := (ih (j + 1) (mx x (l.getD j 0)) (by omega)).2
      refine ⟨Ev.step (fun k => ?_) i1, Ev.step (fun k => ?_) i2⟩
      · simp only [arrearsref28_Fits.l0]
        rw [if_pos (by omega), if_pos (by omega), e3, if_neg c1, if_neg (by omega), wrN j (by omega)]
      · simp only [front_Merge.l0]
        rw [if_pos (by omega), if_pos (by omega), if_pos (by omega), e3, if_neg c1, if_neg (by omega), wrN j (by omega)]

/-- the two Merges answer alike -/
theorem merge_alike (l : List Int) : ∃ R : List Int, (R.length : Int) ≤ 160000 ∧ Ev (fun k => front_Merge.f k l) R ∧ Ev (fun k => arrearsref28_Merge.f k l) R := by
  by_cases h16 : l.length ≤ 16
  · by_cases hf : ∀ x ∈ l, 0 ≤ x ∧ x ≤ 10000
    · have hF : Fit l := ⟨h16, hf⟩
      obtain ⟨m, a1, a2, a3, a4⟩ := most l hF l.length 0 0 (by omega) (by omega) (by omega) (by simp)
      have hz := dn_zero l (fun x hx => (hf x hx).1)
      obtain ⟨R, h1, h2, h3⟩ := turns l hF m a3 a2 m.toNat 0 (by omega) (by omega) [] (by rw [hz]; simp)
      rw [hz] at h2
      have t := total l hF R h2 l.length 0 (by omega)
      refine ⟨R, h1, Ev.congr (fun k => ?_) (a4 R h3), Ev.congr (fun k => ?_) (Ev.bind (fits l hF) (f := fun k b => if b = true then arrearsref28_Merge.l0 k l 0 0 else some []) ?_)⟩
      · unfold front_Merge.f
        rw [if_neg (by omega)]; rfl
      · rfl
      · simpa using t
    · have : ∃ p, p < l.length ∧ (l.getD p 0 < 0 ∨ 10000 < l.getD p 0) := by
        apply Classical.byContradiction
        intro hn
        apply hf
        intro x hx
        obtain ⟨p, hp, rfl⟩ := List.mem_iff_getElem.1 hx
        have hz : l.getD p 0 = l[p] := by rw [List.getD_eq_getElem?_getD, List.getElem?_eq_getElem hp]; rfl
        have hh : ¬ (l.getD p 0 < 0 ∨ 10000 < l.getD p 0) := fun h => hn ⟨p, hp, h⟩
        rw [hz] at hh
        omega
      obtain ⟨p, hp, hb⟩ := this
      have u1 := (unfit l h16 p hp hb p 0 0 (by omega)).1
      have u2 := (unfit l h16 p hp hb p 0 0 (by omega)).2
      refine ⟨[], by simp, Ev.congr (fun k => ?_) u2, Ev.congr (fun k => ?_) (Ev.bind (a := false) (g := fun k => arrearsref28_Fits.f k l) (Ev.congr (fun k => ?_) u1) (f := fun k b => if b = true then arrearsref28_Merge.l0 k l 0 0 else some []) ?_)⟩
      · unfold front_Merge.f
        rw [if_neg (by omega)]; rfl
      · rfl
      · show arrearsref28_Fits.f k l = _
        unfold arrearsref28_Fits.f
        rw [if_neg (by omega)]; rfl
      · simpa using Ev.now ([] : List Int)
  · refine ⟨[], by simp, Ev.congr (fun k => ?_) (Ev.now []), Ev.congr (fun k => ?_) (Ev.bind (a := false) (g := fun k => arrearsref28_Fits.f k l) (Ev.congr (fun k => ?_) (Ev.now false)) (f := fun k b => if b = true then arrearsref28_Merge.l0 k l 0 0 else some []) ?_)⟩
    · unfold front_Merge.f
      rw [if_pos (by omega)]
    · rfl
    · show arrearsref28_Fits.f k l = _
      unfold arrearsref28_Fits.f
      rw [if_pos (by omega)]
    · simpa using Ev.now ([] : List Int)

/-- a list is the same as itself -/
theorem same_self (l : List Int) (hl : l.length ≤ 17592186044416) : Ev (fun k => arrearslaw28_sameInts.f k l l) true := by
  have go : ∀ d j : Nat, j + d = l.length → Ev (fun k => arrearslaw28_sameInts.l0 k l l j) true := by
    intro d
    induction d with
    | zero =>
      intro j hd
      refine Ev.step (fun k => ?_) (Ev.now true)
      simp only [arrearslaw28_sameInts.l0]
      rw [if_neg (by omega)]
    | succ d ih =>
      intro j hd
      refine Ev.step (fun k => ?_) (ih (j + 1) (by omega))
      simp only [arrearslaw28_sameInts.l0]
      rw [if_pos (by omega), if_pos (by omega), if_pos (by omega), if_pos trivial, wrN j (by omega)]
  refine Ev.congr (fun k => ?_) (go l.length 0 (by omega))
  unfold arrearslaw28_sameInts.f
  rw [if_pos rfl]; rfl

/-- the law behind the 64 marks -/
theorem law4 (x3 x6 x11 : List Int) (h3 : x3.length ≤ 17592186044416) (h6 : x6.length ≤ 160000) (h11 : x11.length ≤ 17592186044416) (d : Nat) :
    ∀ (j : Nat) (x14 : List Int), j + d = 64 → x14.length = x6.length + j → Ev (fun k => arrearslaw28_FrontMerges.l4 k x3 x6 x6 x3 x11 x11 x14 j) true := by
  induction d with
  | zero =>
    intro j x14 hd hl
    have e := same_self x6 (by omega)
    have e' := same_self x11 h11
    have e'' := same_self x3 h3
    refine Ev.step (fun k => ?_) (Ev.bind e (f := fun k t159 => if t159 = true then ((arrearslaw28_sameInts.f k x11 x11).bind fun t160 => (if t160 = true then ((arrearslaw28_sameInts.f k x3 x3).bind fun t161 => (if t161 = true then (some ((x14.length : Int) == (wrap64 ((x6.length : Int) + 64)))) else (some false))) else (some false))) else (some false)) ?_)
    · simp only [arrearslaw28_FrontMerges.l4]
      rw [if_neg (by omega)]
    · simp only [if_true]
      refine Ev.bind e' (f := fun k t160 => (if t160 = true then ((arrearslaw28_sameInts.f k x3 x3).bind fun t161 => (if t161 = true then (some ((x14.length : Int) == (wrap64 ((x6.length : Int) + 64)))) else (some false))) else (some false))) ?_
      simp only [if_true]
      refine Ev.bind e'' (f := fun k t161 => (if t161 = true then (some ((x14.length : Int) == (wrap64 ((x6.length : Int) + 64)))) else (some false))) ?_
      simp only [if_true]
      have : ((x14.length : Int) == (wrap64 ((x6.length : Int) + 64))) = true := by
        rw [beq_iff_eq, show wrap64 ((x6.length : Int) + 64) = x6.length + 64 by unfold wrap64; omega]; omega
      rw [this]
      exact Ev.now true
  | succ d ih =>
    intro j x14 hd hl
    refine Ev.step (fun k => ?_) (ih (j + 1) (x14 ++ [-6]) (by omega) (by simp; omega))
    simp only [arrearslaw28_FrontMerges.l4]
    rw [if_pos (by omega), if_pos (by omega), wrN j (by omega)]

/-- the law behind the first answer's end -/
theorem law3 (x3 x6 x11 : List Int) (h3 : x3.length ≤ 17592186044416) (h6 : x6.length ≤ 160000) (h11 : x11.length ≤ 17592186044416) (d : Nat) :
    ∀ (j : Nat) (x5 : List Int), j + d = x6.length → x5.length = x6.length → Ev (fun k => arrearslaw28_FrontMerges.l3 k x3 x5 x6 x6 x3 x11 x11 j) true := by
  induction d with
  | zero =>
    intro j x5 hd hl
    refine Ev.step (fun k => ?_) (law4 x3 x6 x11 h3 h6 h11 64 0 x5 (by omega) (by omega))
    simp only [arrearslaw28_FrontMerges.l3]
    rw [if_neg (by omega)]; rfl
  | succ d ih =>
    intro j x5 hd hl
    refine Ev.step (fun k => ?_) (ih (j + 1) (x5.set j (-5)) (by omega) (by simp; omega))
    simp only [arrearslaw28_FrontMerges.l3]
    rw [if_pos (by omega), if_pos (by omega), wrN j (by omega), Int.toNat_natCast]

/-- the law while the list is written over -/
theorem law2 (b R : List Int) (hR : R.length ≤ 160000) (hb : b.length ≤ 17592186044416) (d : Nat) :
    ∀ (j : Nat) (x3 : List Int), j + d = b.length → x3.length = b.length → x3.take j = b.take j → Ev (fun k => arrearslaw28_FrontMerges.l2 k x3 R R R b j) true := by
  induction d with
  | zero =>
    intro j x3 hd hl ht
    obtain rfl : x3 = b := by rwa [List.take_of_length_le (by omega), List.take_of_length_le (by omega)] at ht
    obtain ⟨S, s1, s2, s3⟩ := merge_alike x3
    have e1 := same_self S (by omega)
    have e2 := same_self R (by omega)
    refine Ev.step (fun k => ?_) (Ev.bind s2 (f := fun k t146 => ((arrearsref28_Merge.f k x3).bind fun t149 => ((arrearslaw28_sameInts.f k t146 t149).bind fun t152 => (if t152 = true then ((arrearslaw28_sameInts.f k R R).bind fun t153 => (if t153 = true then ((arrearslaw28_sameInts.f k R R).bind fun t154 => (arrearslaw28_FrontMerges.j4 k x3 R R R x3 t146 t149 (!t154))) else (arrearslaw28_FrontMerges.j4 k x3 R R R x3 t146 t149 true))) else (arrearslaw28_FrontMerges.j4 k x3 R R R x3 t146 t149 true))))) ?_)
    · simp only [arrearslaw28_FrontMerges.l2]
      rw [if_neg (by omega)]
    · refine Ev.bind s3 (f := fun k t149 => ((arrearslaw28_sameInts.f k S t149).bind fun t152 => (if t152 = true then ((arrearslaw28_sameInts.f k R R).bind fun t153 => (if t153 = true then ((arrearslaw28_sameInts.f k R R).bind fun t154 => (arrearslaw28_FrontMerges.j4 k x3 R R R x3 S t149 (!t154))) else (arrearslaw28_FrontMerges.j4 k x3 R R R x3 S t149 true))) else (arrearslaw28_FrontMerges.j4 k x3 R R R x3 S t149 true)))) ?_
      refine Ev.bind e1 (f := fun k t152 => (if t152 = true then ((arrearslaw28_sameInts.f k R R).bind fun t153 => (if t153 = true then ((arrearslaw28_sameInts.f k R R).bind fun t154 => (arrearslaw28_FrontMerges.j4 k x3 R R R x3 S S (!t154))) else (arrearslaw28_FrontMerges.j4 k x3 R R R x3 S S true))) else (arrearslaw28_FrontMerges.j4 k x3 R R R x3 S S true))) ?_
      simp only [if_true]
      refine Ev.bind e2 (f := fun k t153 => (if t153 = true then ((arrearslaw28_sameInts.f k R R).bind fun t154 => (arrearslaw28_FrontMerges.j4 k x3 R R R x3 S S (!t154))) else (arrearslaw28_FrontMerges.j4 k x3 R R R x3 S S true))) ?_
      simp only [if_true]
      refine Ev.bind e2 (f := fun k t154 => (arrearslaw28_FrontMerges.j4 k x3 R R R x3 S S (!t154))) ?_
      refine Ev.step (fun k => ?_) (law3 x3 R S hb hR (by omega) R.length 0 R (by omega) rfl)
      simp [arrearslaw28_FrontMerges.j4]
  | succ d ih =>
    intro j x3 hd hl ht
    have hj : j < b.length := by omega
    have hz : rd b (j : Int) = b[j] := by rw [rd_nat, List.getD_eq_getElem?_getD, List.getElem?_eq_getElem hj]; rfl
    refine Ev.step (fun k => ?_) (ih (j + 1) (x3.set j b[j]) (by omega) (by simp; omega) ?_)
    · simp only [arrearslaw28_FrontMerges.l2]
      rw [if_pos (by omega), if_pos (by omega), if_pos (by omega), wrN j (by omega), Int.toNat_natCast, hz]
    · rw [List.take_succ_eq_append_getElem hj, List.take_succ_eq_append_getElem (by simp; omega), List.getElem_set_self, List.take_set_of_le (Nat.le_refl _), ht]

/-- the law while the list is told from its end -/
theorem law1 (l R : List Int) (hR : R.length ≤ 160000) (hl : l.length ≤ 17592186044415) (d : Nat) :
    ∀ (x8 : List Int), d ≤ l.length → x8.length + d = l.length → Ev (fun k => arrearslaw28_FrontMerges.l1 k l l R R R x8 ((d : Int) - 1)) true := by
  induction d with
  | zero =>
    intro x8 hd h8
    refine Ev.step (fun k => ?_) (law2 x8 R hR (by omega) x8.length 0 l (by omega) (by omega) (by simp))
    simp only [arrearslaw28_FrontMerges.l1]
    rw [if_neg (by omega)]; rfl
  | succ d ih =>
    intro x8 hd h8
    have e : wrap64 (((d + 1 : Nat) : Int) - 1 - 1) = (d : Int) - 1 := by unfold wrap64; omega
    refine Ev.step (fun k => ?_) (ih (x8 ++ [rd l (((d + 1 : Nat) : Int) - 1)]) (by omega) (by simp; omega))
    simp only [arrearslaw28_FrontMerges.l1]
    rw [if_pos (by omega), if_pos (by omega), if_pos (by omega), if_pos (by omega), e]

/-- the law while the list is copied -/
theorem law0 (l : List Int) (hl : l.length ≤ 17592186044415) (d : Nat) :
    ∀ (j : Nat), j + d = l.length → Ev (fun k => arrearslaw28_FrontMerges.l0 k l (l.take j) j) true := by
  induction d with
  | zero =>
    intro j hd
    rw [List.take_of_length_le (by omega)]
    obtain ⟨R, s1, s2, s3⟩ := merge_alike l
    have e1 := same_self R (by omega)
    have e2 := same_self l (by omega)
    refine Ev.step (fun k => ?_) (Ev.bind s2 (f := fun k t128 => ((front_Merge.f k l).bind fun t131 => ((arrearsref28_Merge.f k l).bind fun t134 => ((arrearslaw28_sameInts.f k t128 t134).bind fun t137 => (if t137 = true then ((arrearslaw28_sameInts.f k t131 t134).bind fun t138 => (if t138 = true then ((arrearslaw28_sameInts.f k l l).bind fun t139 => (arrearslaw28_FrontMerges.j1 k l l t128 t131 t134 (!t139))) else (arrearslaw28_FrontMerges.j1 k l l t128 t131 t134 true))) else (arrearslaw28_FrontMerges.j1 k l l t128 t131 t134 true)))))) ?_)
    · simp only [arrearslaw28_FrontMerges.l0]
      rw [if_neg (by omega)]
    · refine Ev.bind s2 (f := fun k t131 => ((arrearsref28_Merge.f k l).bind fun t134 => ((arrearslaw28_sameInts.f k R t134).bind fun t137 => (if t137 = true then ((arrearslaw28_sameInts.f k t131 t134).bind fun t138 => (if t138 = true then ((arrearslaw28_sameInts.f k l l).bind fun t139 => (arrearslaw28_FrontMerges.j1 k l l R t131 t134 (!t139))) else (arrearslaw28_FrontMerges.j1 k l l R t131 t134 true))) else (arrearslaw28_FrontMerges.j1 k l l R t131 t134 true))))) ?_
      refine Ev.bind s3 (f := fun k t134 => ((arrearslaw28_sameInts.f k R t134).bind fun t137 => (if t137 = true then ((arrearslaw28_sameInts.f k R t134).bind fun t138 => (if t138 = true then ((arrearslaw28_sameInts.f k l l).bind fun t139 => (arrearslaw28_FrontMerges.j1 k l l R R t134 (!t139))) else (arrearslaw28_FrontMerges.j1 k l l R R t134 true))) else (arrearslaw28_FrontMerges.j1 k l l R R t134 true)))) ?_
      refine Ev.bind e1 (f := fun k t137 => (if t137 = true then ((arrearslaw28_sameInts.f k R R).bind fun t138 => (if t138 = true then ((arrearslaw28_sameInts.f k l l).bind fun t139 => (arrearslaw28_FrontMerges.j1 k l l R R R (!t139))) else (arrearslaw28_FrontMerges.j1 k l l R R R true))) else (arrearslaw28_FrontMerges.j1 k l l R R R true))) ?_
      simp only [if_true]
      refine Ev.bind e1 (f := fun k t138 => (if t138 = true then ((arrearslaw28_sameInts.f k l l).bind fun t139 => (arrearslaw28_FrontMerges.j1 k l l R R R (!t139))) else (arrearslaw28_FrontMerges.j1 k l l R R R true))) ?_
      simp only [if_true]
      refine Ev.bind e2 (f := fun k t139 => (arrearslaw28_FrontMerges.j1 k l l R R R (!t139))) ?_
      refine Ev.step (fun k => ?_) (law1 l R (by omega) hl l.length [] (Nat.le_refl _) (by simp))
      have e : wrap64 ((l.length : Int) - 1) = (l.length : Int) - 1 := by unfold wrap64; omega
      simp [arrearslaw28_FrontMerges.j1, e]
  | succ d ih =>
    intro j hd
    have hj : j < l.length := by omega
    have hz : rd l (j : Int) = l[j] := by rw [rd_nat, List.getD_eq_getElem?_getD, List.getElem?_eq_getElem hj]; rfl
    refine Ev.step (fun k => ?_) (ih (j + 1) (by omega))
    simp only [arrearslaw28_FrontMerges.l0]
    rw [if_pos (by omega), if_pos (by omega), if_pos (by rw [List.length_take]; omega), wrN j (by omega), hz, ← List.take_succ_eq_append_getElem hj]

theorem FrontMerges : arrearslaw28_FrontMerges.Pure := by
  intro l _ hl _
  exact (Ev.congr (fun k => rfl) (law0 l (by omega) l.length 0 (by omega))).rounds

end Go.Proofs.Ytfjpgiepkdpoeaa.Pure
