/- Plain laws on decimal digits and the sum of modulus ten: no program in it. Conditions: as each theorem says. -/
import Derived.Lib.ItoaNum
namespace Go.Proofs.YtkjdmbbaacjpmaaDoor.Num

/-- a digit doubled, its own digits added -/
def dbl (d : Int) : Int := if 2 * d > 9 then 2 * d - 9 else 2 * d
/-- the weighed sum of digits, the last one first; the first of them doubled, if b -/
def lsum : List Int → Bool → Int
  | [], _ => 0
  | d :: t, b => (if b then dbl d else d) + lsum t (!b)
def Dig (l : List Int) : Prop := ∀ d ∈ l, 0 ≤ d ∧ d ≤ 9

theorem dbl_eq {d : Int} (h : 0 ≤ d) (h' : d ≤ 9) : d * 2 % 10 + d / 5 = dbl d := by unfold dbl; split <;> omega
theorem dbl_range {d : Int} (h : 0 ≤ d) (h' : d ≤ 9) : 0 ≤ dbl d ∧ dbl d ≤ 9 := by unfold dbl; split <;> omega
theorem lsum_range : ∀ (l : List Int) (b : Bool), Dig l → 0 ≤ lsum l b ∧ lsum l b ≤ 9 * l.length
  | [], _, _ => by simp [lsum]
  | d :: t, b, h => by
    have h1 := lsum_range t (!b) (fun x hx => h x (by simp [hx]))
    have h2 := h d (by simp)
    have h3 := dbl_range h2.1 h2.2
    simp only [lsum, List.length_cons]
    split <;> omega
theorem lsum_append : ∀ (l : List Int) (d : Int) (b : Bool), lsum (l ++ [d]) b = lsum l b + (if (b == (l.length % 2 == 0)) then dbl d else d)
  | [], d, b => by simp [lsum]
  | x :: t, d, b => by
    simp only [List.cons_append, lsum, lsum_append t d (!b), List.length_cons]
    have : ((!b) == (t.length % 2 == 0)) = (b == ((t.length + 1) % 2 == 0)) := by
      have h : t.length % 2 = 0 ∨ t.length % 2 = 1 := by omega
      rcases h with h | h
      · have h' : (t.length + 1) % 2 = 1 := by omega
        rw [h, h']; cases b <;> rfl
      · have h' : (t.length + 1) % 2 = 0 := by omega
        rw [h, h']; cases b <;> rfl
    rw [this]; omega

/-- k digits of a number, the last one first -/
def rdig : Nat → Nat → List Int
  | 0, _ => []
  | k + 1, n => ((n % 10 : Nat) : Int) :: rdig k (n / 10)
theorem rdig_length : ∀ (k n : Nat), (rdig k n).length = k
  | 0, _ => rfl
  | k + 1, n => by simp [rdig, rdig_length k]
theorem rdig_dig : ∀ (k n : Nat), Dig (rdig k n)
  | 0, _ => by intro d hd; simp [rdig] at hd
  | k + 1, n => by
    intro d hd
    simp only [rdig, List.mem_cons] at hd
    rcases hd with rfl | hd
    · omega
    · exact rdig_dig k _ d hd
theorem rdig_zero : ∀ (k : Nat) (b : Bool), lsum (rdig k 0) b = 0
  | 0, _ => rfl
  | k + 1, b => by
    simp only [rdig, lsum, Nat.zero_mod, Nat.zero_div, rdig_zero k]
    cases b <;> simp [dbl]

/-- k decimal digits of a number as bytes, the first one first -/
def dec : Nat → Int → List Int
  | 0, _ => []
  | k + 1, x => dec k (x / 10) ++ [48 + x % 10]
theorem dec_length : ∀ (k : Nat) (x : Int), (dec k x).length = k
  | 0, _ => rfl
  | k + 1, x => by simp [dec, dec_length k]
/-- the digits behind bytes, the last one first -/
def behind (l : List Int) : List Int := (l.map fun c => c - 48).reverse
theorem behind_length (l : List Int) : (behind l).length = l.length := by simp [behind]
theorem dec_behind : ∀ (k n : Nat), behind (dec k (n : Int)) = rdig k n
  | 0, _ => rfl
  | k + 1, n => by
    have := dec_behind k (n / 10)
    have e : ((n : Int) / 10) = ((n / 10 : Nat) : Int) := by omega
    have e2 : (48 + (n : Int) % 10 - 48) = ((n % 10 : Nat) : Int) := by omega
    simp only [behind, dec, List.map_append, List.map_cons, List.map_nil, List.reverse_append, List.reverse_cons, List.reverse_nil, List.nil_append, List.cons_append, rdig, e, e2] at this ⊢
    rw [this]

/-- a number's shortest digits as integers -/
def short (n : Nat) : List Int := (Lib.decDigits n).map fun c => (c.toNat : Int)
theorem short_small {n : Nat} (h : n < 10) : short n = [48 + (n : Int)] := by
  have e : (UInt8.ofNat (48 + n)).toNat = 48 + n := by simp [UInt8.toNat_ofNat']; omega
  unfold short
  rw [Lib.decDigits, dif_pos h]
  simp only [List.map_cons, List.map_nil, e]
  congr 1
theorem short_big {n : Nat} (h : ¬ n < 10) : short n = short (n / 10) ++ [48 + ((n % 10 : Nat) : Int)] := by
  have e : (UInt8.ofNat (48 + n % 10)).toNat = 48 + n % 10 := by simp [UInt8.toNat_ofNat']; omega
  unfold short
  rw [Lib.decDigits, dif_neg h]
  simp only [List.map_append, List.map_cons, List.map_nil, e]
  congr 1
theorem behind_append (l : List Int) (c : Int) : behind (l ++ [c]) = (c - 48) :: behind l := by simp [behind]
theorem short_lsum : ∀ (k n : Nat) (b : Bool), n < 10 ^ (k + 1) → lsum (behind (short n)) b = lsum (rdig (k + 1) n) b
  | k, n, b, h => by
    by_cases hn : n < 10
    · rw [short_small hn]
      have e : n % 10 = n := by omega
      have e0 : n / 10 = 0 := by omega
      have e2 : (48 + (n : Int) - 48) = (n : Int) := by omega
      simp only [behind, List.map_cons, List.map_nil, List.reverse_cons, List.reverse_nil, List.nil_append, rdig, lsum, e, e0, rdig_zero, e2]
    · match k with
      | 0 => omega
      | k + 1 =>
        have h' : n / 10 < 10 ^ (k + 1) := by rw [Nat.pow_succ] at h; omega
        have ih := short_lsum k (n / 10) (!b) h'
        have e2 : (48 + ((n % 10 : Nat) : Int) - 48) = ((n % 10 : Nat) : Int) := by omega
        rw [short_big hn, behind_append, e2]
        simp only [lsum, ih, rdig]
theorem short_dig : ∀ (n : Nat), Dig (behind (short n)) := by
  intro n
  induction n using Nat.strongRecOn with
  | _ n ih =>
    by_cases hn : n < 10
    · rw [short_small hn]
      intro d hd
      simp [behind] at hd
      omega
    · rw [short_big hn, behind_append]
      intro d hd
      simp only [List.mem_cons] at hd
      rcases hd with rfl | hd
      · omega
      · exact ih (n / 10) (by omega) d hd
theorem short_length (n : Nat) : ∀ k, n < 10 ^ (k + 1) → (short n).length ≤ k + 1 := by
  induction n using Nat.strongRecOn with
  | _ n ih =>
    intro k h
    by_cases hn : n < 10
    · rw [short_small hn]; simp
    · match k with
      | 0 => omega
      | k + 1 =>
        rw [short_big hn]
        have := ih (n / 10) (by omega) k (by rw [Nat.pow_succ] at h; omega)
        simp only [List.length_append, List.length_cons, List.length_nil]; omega

end Go.Proofs.YtkjdmbbaacjpmaaDoor.Num
