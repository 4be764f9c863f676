-- Texts of this claim, joined and cut down to what it uses (a program of this session).
import Derived.Test.YtlflclfhldghbaaGreatDoorT5
import Derived.Test.YtlflclfhldghbaaGreatDoorProg
import Derived.KernelRfl
set_option linter.unusedVariables false
set_option linter.unusedSimpArgs false
set_option linter.unnecessarySimpa false
section
set_option maxRecDepth 20000
namespace Go.Proofs.YtlflclfhldghbaaGreatDoor.Fs
open Go Go.Proofs.YtlflclfhldghbaaGreatDoor.Ls P
theorem gd0 {α : Type} (a0 a1 a2 a3 a4 a5 a6 a7 a8 a9 a10 a11 d : α) : List.getD [a0, a1, a2, a3, a4, a5, a6, a7, a8, a9, a10, a11] 0 d = a0 := rfl
theorem gd1 {α : Type} (a0 a1 a2 a3 a4 a5 a6 a7 a8 a9 a10 a11 d : α) : List.getD [a0, a1, a2, a3, a4, a5, a6, a7, a8, a9, a10, a11] 1 d = a1 := rfl
theorem gd2 {α : Type} (a0 a1 a2 a3 a4 a5 a6 a7 a8 a9 a10 a11 d : α) : List.getD [a0, a1, a2, a3, a4, a5, a6, a7, a8, a9, a10, a11] 2 d = a2 := rfl
theorem gd3 {α : Type} (a0 a1 a2 a3 a4 a5 a6 a7 a8 a9 a10 a11 d : α) : List.getD [a0, a1, a2, a3, a4, a5, a6, a7, a8, a9, a10, a11] 3 d = a3 := rfl
theorem gd4 {α : Type} (a0 a1 a2 a3 a4 a5 a6 a7 a8 a9 a10 a11 d : α) : List.getD [a0, a1, a2, a3, a4, a5, a6, a7, a8, a9, a10, a11] 4 d = a4 := rfl
theorem gd5 {α : Type} (a0 a1 a2 a3 a4 a5 a6 a7 a8 a9 a10 a11 d : α) : List.getD [a0, a1, a2, a3, a4, a5, a6, a7, a8, a9, a10, a11] 5 d = a5 := rfl
theorem gd6 {α : Type} (a0 a1 a2 a3 a4 a5 a6 a7 a8 a9 a10 a11 d : α) : List.getD [a0, a1, a2, a3, a4, a5, a6, a7, a8, a9, a10, a11] 6 d = a6 := rfl
theorem gd7 {α : Type} (a0 a1 a2 a3 a4 a5 a6 a7 a8 a9 a10 a11 d : α) : List.getD [a0, a1, a2, a3, a4, a5, a6, a7, a8, a9, a10, a11] 7 d = a7 := rfl
theorem gd8 {α : Type} (a0 a1 a2 a3 a4 a5 a6 a7 a8 a9 a10 a11 d : α) : List.getD [a0, a1, a2, a3, a4, a5, a6, a7, a8, a9, a10, a11] 8 d = a8 := rfl
theorem gd9 {α : Type} (a0 a1 a2 a3 a4 a5 a6 a7 a8 a9 a10 a11 d : α) : List.getD [a0, a1, a2, a3, a4, a5, a6, a7, a8, a9, a10, a11] 9 d = a9 := rfl
theorem gd10 {α : Type} (a0 a1 a2 a3 a4 a5 a6 a7 a8 a9 a10 a11 d : α) : List.getD [a0, a1, a2, a3, a4, a5, a6, a7, a8, a9, a10, a11] 10 d = a10 := rfl
theorem gd11 {α : Type} (a0 a1 a2 a3 a4 a5 a6 a7 a8 a9 a10 a11 d : α) : List.getD [a0, a1, a2, a3, a4, a5, a6, a7, a8, a9, a10, a11] 11 d = a11 := rfl
theorem st0 {α : Type} (a0 a1 a2 a3 a4 a5 a6 a7 a8 a9 a10 a11 x : α) : List.set [a0, a1, a2, a3, a4, a5, a6, a7, a8, a9, a10, a11] 0 x = [x, a1, a2, a3, a4, a5, a6, a7, a8, a9, a10, a11] := rfl
theorem st1 {α : Type} (a0 a1 a2 a3 a4 a5 a6 a7 a8 a9 a10 a11 x : α) : List.set [a0, a1, a2, a3, a4, a5, a6, a7, a8, a9, a10, a11] 1 x = [a0, x, a2, a3, a4, a5, a6, a7, a8, a9, a10, a11] := rfl
theorem st2 {α : Type} (a0 a1 a2 a3 a4 a5 a6 a7 a8 a9 a10 a11 x : α) : List.set [a0, a1, a2, a3, a4, a5, a6, a7, a8, a9, a10, a11] 2 x = [a0, a1, x, a3, a4, a5, a6, a7, a8, a9, a10, a11] := rfl
theorem st3 {α : Type} (a0 a1 a2 a3 a4 a5 a6 a7 a8 a9 a10 a11 x : α) : List.set [a0, a1, a2, a3, a4, a5, a6, a7, a8, a9, a10, a11] 3 x = [a0, a1, a2, x, a4, a5, a6, a7, a8, a9, a10, a11] := rfl
theorem st4 {α : Type} (a0 a1 a2 a3 a4 a5 a6 a7 a8 a9 a10 a11 x : α) : List.set [a0, a1, a2, a3, a4, a5, a6, a7, a8, a9, a10, a11] 4 x = [a0, a1, a2, a3, x, a5, a6, a7, a8, a9, a10, a11] := rfl
theorem st5 {α : Type} (a0 a1 a2 a3 a4 a5 a6 a7 a8 a9 a10 a11 x : α) : List.set [a0, a1, a2, a3, a4, a5, a6, a7, a8, a9, a10, a11] 5 x = [a0, a1, a2, a3, a4, x, a6, a7, a8, a9, a10, a11] := rfl
theorem st6 {α : Type} (a0 a1 a2 a3 a4 a5 a6 a7 a8 a9 a10 a11 x : α) : List.set [a0, a1, a2, a3, a4, a5, a6, a7, a8, a9, a10, a11] 6 x = [a0, a1, a2, a3, a4, a5, x, a7, a8, a9, a10, a11] := rfl
theorem st7 {α : Type} (a0 a1 a2 a3 a4 a5 a6 a7 a8 a9 a10 a11 x : α) : List.set [a0, a1, a2, a3, a4, a5, a6, a7, a8, a9, a10, a11] 7 x = [a0, a1, a2, a3, a4, a5, a6, x, a8, a9, a10, a11] := rfl
theorem st8 {α : Type} (a0 a1 a2 a3 a4 a5 a6 a7 a8 a9 a10 a11 x : α) : List.set [a0, a1, a2, a3, a4, a5, a6, a7, a8, a9, a10, a11] 8 x = [a0, a1, a2, a3, a4, a5, a6, a7, x, a9, a10, a11] := rfl
theorem st9 {α : Type} (a0 a1 a2 a3 a4 a5 a6 a7 a8 a9 a10 a11 x : α) : List.set [a0, a1, a2, a3, a4, a5, a6, a7, a8, a9, a10, a11] 9 x = [a0, a1, a2, a3, a4, a5, a6, a7, a8, x, a10, a11] := rfl
theorem st10 {α : Type} (a0 a1 a2 a3 a4 a5 a6 a7 a8 a9 a10 a11 x : α) : List.set [a0, a1, a2, a3, a4, a5, a6, a7, a8, a9, a10, a11] 10 x = [a0, a1, a2, a3, a4, a5, a6, a7, a8, a9, x, a11] := rfl
theorem st11 {α : Type} (a0 a1 a2 a3 a4 a5 a6 a7 a8 a9 a10 a11 x : α) : List.set [a0, a1, a2, a3, a4, a5, a6, a7, a8, a9, a10, a11] 11 x = [a0, a1, a2, a3, a4, a5, a6, a7, a8, a9, a10, x] := rfl
theorem ln12 {α : Type} (a0 a1 a2 a3 a4 a5 a6 a7 a8 a9 a10 a11 : α) : List.length [a0, a1, a2, a3, a4, a5, a6, a7, a8, a9, a10, a11] = 12 := rfl
theorem tn0 : Int.toNat (0 : Int) = 0 := rfl
theorem dz0 : (decide ((0 : Int) ≤ 0) && decide ((0 : Int) < ((12 : Nat) : Int))) = true := rfl
theorem nb0 : Nat.blt 0 12 = true := rfl
theorem tn1 : Int.toNat (1 : Int) = 1 := rfl
theorem dz1 : (decide ((0 : Int) ≤ 1) && decide ((1 : Int) < ((12 : Nat) : Int))) = true := rfl
theorem nb1 : Nat.blt 1 12 = true := rfl
theorem tn2 : Int.toNat (2 : Int) = 2 := rfl
theorem dz2 : (decide ((0 : Int) ≤ 2) && decide ((2 : Int) < ((12 : Nat) : Int))) = true := rfl
theorem nb2 : Nat.blt 2 12 = true := rfl
theorem tn3 : Int.toNat (3 : Int) = 3 := rfl
theorem dz3 : (decide ((0 : Int) ≤ 3) && decide ((3 : Int) < ((12 : Nat) : Int))) = true := rfl
theorem nb3 : Nat.blt 3 12 = true := rfl
theorem tn4 : Int.toNat (4 : Int) = 4 := rfl
theorem dz4 : (decide ((0 : Int) ≤ 4) && decide ((4 : Int) < ((12 : Nat) : Int))) = true := rfl
theorem nb4 : Nat.blt 4 12 = true := rfl
theorem tn5 : Int.toNat (5 : Int) = 5 := rfl
theorem dz5 : (decide ((0 : Int) ≤ 5) && decide ((5 : Int) < ((12 : Nat) : Int))) = true := rfl
theorem nb5 : Nat.blt 5 12 = true := rfl
theorem tn6 : Int.toNat (6 : Int) = 6 := rfl
theorem dz6 : (decide ((0 : Int) ≤ 6) && decide ((6 : Int) < ((12 : Nat) : Int))) = true := rfl
theorem nb6 : Nat.blt 6 12 = true := rfl
theorem tn7 : Int.toNat (7 : Int) = 7 := rfl
theorem dz7 : (decide ((0 : Int) ≤ 7) && decide ((7 : Int) < ((12 : Nat) : Int))) = true := rfl
theorem nb7 : Nat.blt 7 12 = true := rfl
theorem tn8 : Int.toNat (8 : Int) = 8 := rfl
theorem dz8 : (decide ((0 : Int) ≤ 8) && decide ((8 : Int) < ((12 : Nat) : Int))) = true := rfl
theorem nb8 : Nat.blt 8 12 = true := rfl
theorem tn9 : Int.toNat (9 : Int) = 9 := rfl
theorem dz9 : (decide ((0 : Int) ≤ 9) && decide ((9 : Int) < ((12 : Nat) : Int))) = true := rfl
theorem nb9 : Nat.blt 9 12 = true := rfl
theorem tn10 : Int.toNat (10 : Int) = 10 := rfl
theorem dz10 : (decide ((0 : Int) ≤ 10) && decide ((10 : Int) < ((12 : Nat) : Int))) = true := rfl
theorem nb10 : Nat.blt 10 12 = true := rfl
theorem tn11 : Int.toNat (11 : Int) = 11 := rfl
theorem dz11 : (decide ((0 : Int) ≤ 11) && decide ((11 : Int) < ((12 : Nat) : Int))) = true := rfl
theorem nb11 : Nat.blt 11 12 = true := rfl
theorem tn12 : Int.toNat (12 : Int) = 12 := rfl
theorem nb12 : Nat.beq 12 12 = true := rfl
theorem nbd : Nat.beq 12 (12 / 1) = true := rfl
theorem nbe : Nat.beq 12 (24 / (1 + (1 + 0))) = true := rfl
theorem nbz : Nat.ble 0 ((instOfNatNat 1).ofNat) = true := rfl
theorem sd1 : decide ((1 : Int) < 0) = false := rfl
theorem sd2 : decide ((-1 : Int) < 0) = true := rfl
theorem sd3 : decide ((1 : Int) > 0) = true := rfl
theorem sd4 : decide ((-1 : Int) > 0) = false := rfl
theorem keyq {b X : Bool} (h : X = false) : (bif b then X else false) = false := by rw [h]; cases b <;> rfl
theorem dself (t : Int) : decide (t < t) = false := by simp
theorem cfb (a : Bool) : (bif a then false else false) = false := by cases a <;> rfl
theorem ccs (a : Bool) : (bif a then true else false) = a := by cases a <;> rfl
def finB (b : BookT) (f : Nat → Int) : Res TT g_post :=
  if allR f then (if sided f then ⟨true, false, (mkBook f, 0, ()), ((), ()), ()⟩ else ⟨true, false, (b, 81, ()), ((), ()), ()⟩) else ⟨true, false, (b, 3, ()), ((), ()), ()⟩
set_option maxHeartbeats 4000000 in
theorem post_end (k : Nat) (t : Int) (es : List EntT) (b : BookT) (o0 o1 o2 o3 o4 o5 o6 o7 o8 o9 o10 o11 : Int) (f : Nat → Int) (h : ∀ i, -100000000000000000000000 ≤ f i ∧ f i ≤ 100000000000000000000000) :
    L_post_9 ((k + 40) + 1) (((), (), (), (), t, t, ()), (es, netL b, [o0, o1, o2, o3, o4, o5, o6, o7, o8, o9, o10, o11], [wd (f 0), wd (f 1), wd (f 2), wd (f 3), wd (f 4), wd (f 5), wd (f 6), wd (f 7), wd (f 8), wd (f 9), wd (f 10), wd (f 11)], ())) = finB b f := by
  refine (L_post_9_eq k t t es (netL b) [o0, o1, o2, o3, o4, o5, o6, o7, o8, o9, o10, o11] [wd (f 0), wd (f 1), wd (f 2), wd (f 3), wd (f 4), wd (f 5), wd (f 6), wd (f 7), wd (f 8), wd (f 9), wd (f 10), wd (f 11)]).trans ?_
  unfold netL
  simp only [dself, cond_false]
  simp only [w01, w2, w3, w4, w5, w6, w7, w8, w9, w10, w11, w12, gd0, gd1, gd2, gd3, gd4, gd5, gd6, gd7, gd8, gd9, gd10, gd11, st0, st1, st2, st3, st4, st5, st6, st7, st8, st9, st10, st11, tn0, tn1, tn2, tn3, tn4, tn5, tn6, tn7, tn8, tn9, tn10, tn11, tn12, dz0, dz1, dz2, dz3, dz4, dz5, dz6, dz7, dz8, dz9, dz10, dz11, nb0, nb1, nb2, nb3, nb4, nb5, nb6, nb7, nb8, nb9, nb10, nb11, nb12, ln12, nbd, nbe, nbz, csame, sd1, sd2, sd3, sd4, cfb, ccs, Bool.and_true, Bool.true_and, cond_true, cond_false]
  have n0 := wd_narrow (h 0).1 (h 0).2
  have n1 := wd_narrow (h 1).1 (h 1).2
  have n2 := wd_narrow (h 2).1 (h 2).2
  have n3 := wd_narrow (h 3).1 (h 3).2
  have n4 := wd_narrow (h 4).1 (h 4).2
  have n5 := wd_narrow (h 5).1 (h 5).2
  have n6 := wd_narrow (h 6).1 (h 6).2
  have n7 := wd_narrow (h 7).1 (h 7).2
  have n8 := wd_narrow (h 8).1 (h 8).2
  have n9 := wd_narrow (h 9).1 (h 9).2
  have n10 := wd_narrow (h 10).1 (h 10).2
  have n11 := wd_narrow (h 11).1 (h 11).2
  simp only [n0, n1, n2, n3, n4, n5, n6, n7, n8, n9, n10, n11]
  clear n0 n1 n2 n3 n4 n5 n6 n7 n8 n9 n10 n11
  unfold finB
  by_cases r0 : inR (f 0)
  case neg => rw [if_neg (fun q => r0 q.1)]; simp only [decide_eq_false r0, Bool.not_false, cond_true]
  simp only [decide_eq_true r0, Bool.not_true, cond_false]
  by_cases r1 : inR (f 1)
  case neg => rw [if_neg (fun q => r1 q.2.1)]; simp only [decide_eq_false r1, Bool.not_false, cond_true]
  simp only [decide_eq_true r1, Bool.not_true, cond_false]
  by_cases r2 : inR (f 2)
  case neg => rw [if_neg (fun q => r2 q.2.2.1)]; simp only [decide_eq_false r2, Bool.not_false, cond_true]
  simp only [decide_eq_true r2, Bool.not_true, cond_false]
  by_cases r3 : inR (f 3)
  case neg => rw [if_neg (fun q => r3 q.2.2.2.1)]; simp only [decide_eq_false r3, Bool.not_false, cond_true]
  simp only [decide_eq_true r3, Bool.not_true, cond_false]
  by_cases r4 : inR (f 4)
  case neg => rw [if_neg (fun q => r4 q.2.2.2.2.1)]; simp only [decide_eq_false r4, Bool.not_false, cond_true]
  simp only [decide_eq_true r4, Bool.not_true, cond_false]
  by_cases r5 : inR (f 5)
  case neg => rw [if_neg (fun q => r5 q.2.2.2.2.2.1)]; simp only [decide_eq_false r5, Bool.not_false, cond_true]
  simp only [decide_eq_true r5, Bool.not_true, cond_false]
  by_cases r6 : inR (f 6)
  case neg => rw [if_neg (fun q => r6 q.2.2.2.2.2.2.1)]; simp only [decide_eq_false r6, Bool.not_false, cond_true]
  simp only [decide_eq_true r6, Bool.not_true, cond_false]
  by_cases r7 : inR (f 7)
  case neg => rw [if_neg (fun q => r7 q.2.2.2.2.2.2.2.1)]; simp only [decide_eq_false r7, Bool.not_false, cond_true]
  simp only [decide_eq_true r7, Bool.not_true, cond_false]
  by_cases r8 : inR (f 8)
  case neg => rw [if_neg (fun q => r8 q.2.2.2.2.2.2.2.2.1)]; simp only [decide_eq_false r8, Bool.not_false, cond_true]
  simp only [decide_eq_true r8, Bool.not_true, cond_false]
  by_cases r9 : inR (f 9)
  case neg => rw [if_neg (fun q => r9 q.2.2.2.2.2.2.2.2.2.1)]; simp only [decide_eq_false r9, Bool.not_false, cond_true]
  simp only [decide_eq_true r9, Bool.not_true, cond_false]
  by_cases r10 : inR (f 10)
  case neg => rw [if_neg (fun q => r10 q.2.2.2.2.2.2.2.2.2.2.1)]; simp only [decide_eq_false r10, Bool.not_false, cond_true]
  simp only [decide_eq_true r10, Bool.not_true, cond_false]
  by_cases r11 : inR (f 11)
  case neg => rw [if_neg (fun q => r11 q.2.2.2.2.2.2.2.2.2.2.2)]; simp only [decide_eq_false r11, Bool.not_false, cond_true]
  simp only [decide_eq_true r11, Bool.not_true, cond_false]
  rw [if_pos ⟨r0, r1, r2, r3, r4, r5, r6, r7, r8, r9, r10, r11⟩]
  simp only [wd_val r0, wd_val r1, wd_val r2, wd_val r3, wd_val r4, wd_val r5, wd_val r6, wd_val r7, wd_val r8, wd_val r9, wd_val r10, wd_val r11]
  rw [keyq (b := decide (f 0 > 0))]
  rotate_left
  · rfl
  by_cases s0 : 0 ≤ f 0
  case neg => rw [if_neg (fun q => s0 q.1)]; simp only [show decide (f 0 < 0) = true from decide_eq_true (by omega), cond_true, Bool.true_or]; try rfl
  simp only [show decide (f 0 < 0) = false from decide_eq_false (by omega), cond_false]
  by_cases s1 : 0 ≤ f 1
  case neg => rw [if_neg (fun q => s1 q.2.1)]; simp only [show decide (f 1 < 0) = true from decide_eq_true (by omega), cond_true, Bool.true_or]; try rfl
  simp only [show decide (f 1 < 0) = false from decide_eq_false (by omega), cond_false]
  by_cases s2 : 0 ≤ f 2
  case neg => rw [if_neg (fun q => s2 q.2.2.1)]; simp only [show decide (f 2 < 0) = true from decide_eq_true (by omega), cond_true, Bool.true_or]; try rfl
  simp only [show decide (f 2 < 0) = false from decide_eq_false (by omega), cond_false]
  by_cases s3 : 0 ≤ f 3
  case neg => rw [if_neg (fun q => s3 q.2.2.2.1)]; simp only [show decide (f 3 < 0) = true from decide_eq_true (by omega), cond_true, Bool.true_or]; try rfl
  simp only [show decide (f 3 < 0) = false from decide_eq_false (by omega), cond_false]
  by_cases s4 : f 4 ≤ 0
  case neg => rw [if_neg (fun q => s4 q.2.2.2.2.1)]; simp only [show decide (f 4 > 0) = true from decide_eq_true (by omega), cond_true, Bool.true_or]; try rfl
  simp only [show decide (f 4 > 0) = false from decide_eq_false (by omega), cond_false]
  by_cases s5 : f 5 ≤ 0
  case neg => rw [if_neg (fun q => s5 q.2.2.2.2.2.1)]; simp only [show decide (f 5 > 0) = true from decide_eq_true (by omega), cond_true, Bool.true_or]; try rfl
  simp only [show decide (f 5 > 0) = false from decide_eq_false (by omega), cond_false]
  by_cases s6 : f 6 ≤ 0
  case neg => rw [if_neg (fun q => s6 q.2.2.2.2.2.2.1)]; simp only [show decide (f 6 > 0) = true from decide_eq_true (by omega), cond_true, Bool.true_or]; try rfl
  simp only [show decide (f 6 > 0) = false from decide_eq_false (by omega), cond_false]
  by_cases s7 : f 7 ≤ 0
  case neg => rw [if_neg (fun q => s7 q.2.2.2.2.2.2.2.1)]; simp only [show decide (f 7 > 0) = true from decide_eq_true (by omega), cond_true, Bool.true_or]; try rfl
  simp only [show decide (f 7 > 0) = false from decide_eq_false (by omega), cond_false]
  by_cases s8 : f 8 ≤ 0
  case neg => rw [if_neg (fun q => s8 q.2.2.2.2.2.2.2.2.1)]; simp only [show decide (f 8 > 0) = true from decide_eq_true (by omega), cond_true, Bool.true_or]; try rfl
  simp only [show decide (f 8 > 0) = false from decide_eq_false (by omega), cond_false]
  by_cases s9 : 0 ≤ f 9
  case neg => rw [if_neg (fun q => s9 q.2.2.2.2.2.2.2.2.2.1)]; simp only [show decide (f 9 < 0) = true from decide_eq_true (by omega), cond_true, Bool.true_or]; try rfl
  simp only [show decide (f 9 < 0) = false from decide_eq_false (by omega), cond_false]
  by_cases s10 : f 10 ≤ 0
  case neg => rw [if_neg (fun q => s10 q.2.2.2.2.2.2.2.2.2.2.1)]; simp only [show decide (f 10 > 0) = true from decide_eq_true (by omega), cond_true, Bool.true_or]; try rfl
  simp only [show decide (f 10 > 0) = false from decide_eq_false (by omega), cond_false]
  by_cases s11 : 0 ≤ f 11
  case neg => rw [if_neg (fun q => s11 q.2.2.2.2.2.2.2.2.2.2.2)]; simp only [show decide (f 11 < 0) = true from decide_eq_true (by omega), cond_true, Bool.true_or]; try rfl
  simp only [show decide (f 11 < 0) = false from decide_eq_false (by omega), cond_false]
  rw [if_pos ⟨s0, s1, s2, s3, s4, s5, s6, s7, s8, s9, s10, s11⟩]
  rfl
end Go.Proofs.YtlflclfhldghbaaGreatDoor.Fs
end
section
set_option maxRecDepth 100000
namespace Go.Proofs.YtlflclfhldghbaaGreatDoor.Fs
open Go Go.Proofs.YtlflclfhldghbaaGreatDoor.Ls
noncomputable def C_allocate : Cx TT := cxB tbl34 Go.Proofs.Tryz.f76.ntmps [] [] [51, 56, 1000001] [45] []
noncomputable def k_allocate (a : g_allocate.args.ty) (h : tysO TT g_allocate.hp) : Nat := 0
noncomputable def F_allocate : g_allocate.args.ty → tysO TT g_allocate.hp → Res TT g_allocate := fun a h => bodyG C_allocate g_allocate Go.Proofs.Tryz.f76 [10] (k_allocate a h + 10) a h
theorem F_allocate_ok : FOK prog globs 76 g_allocate F_allocate :=
  bodyG_sound (cx := C_allocate) mix (cxB_ok tbl34_ok _ _ _ _ _ _) (f := 76) (fn := Go.Proofs.Tryz.f76) (by kernel_rfl) (by kernel_rfl) (by kernel_rfl) (by kernel_rfl) _
theorem F_allocate_eq (order_ : Int) (owed : T125) (amount : Int) : F_allocate (order_, owed, amount, ()) () =
  let x0 := [((3 : Int), (2 : Int), (1 : Int), ()), ((3 : Int), (1 : Int), (2 : Int), ()), ((2 : Int), (3 : Int), (1 : Int), ()), ((2 : Int), (1 : Int), (3 : Int), ()), ((1 : Int), (3 : Int), (2 : Int), ()), ((1 : Int), (2 : Int), (3 : Int), ())]
  let x1 := (((bif decide (order_ < 0) then true else true) && (decide (0 ≤ order_) && decide (order_ < ((6 : Nat) : Int)))) && (Nat.blt order_.toNat x0.length))
  let x2 := (bif decide (owed.1 < 0) then x1 else (bif decide (owed.2.1 < 0) then x1 else x1))
  let x3 := (x0.getD order_.toNat ((0 : Int), (0 : Int), (0 : Int), ()))
  let x4 := x3.1
  let x5 := x3.2
  let x6 := x5.1
  let x7 := (x6 == 3)
  let x8 := x5.2.1
  let x9 := (x8 == 3)
  let x10 := (IntKind.i64.wrap (amount - (if (amount < owed.1) then amount else owed.1)))
  let x11 := (if (x10 < owed.1) then x10 else owed.1)
  let x12 := (IntKind.i64.wrap (x10 - x11))
  let x13 := (if (x12 < owed.1) then x12 else owed.1)
  let x14 := (x8 == 2)
  let x15 := (if (x12 < owed.2.1) then x12 else owed.2.1)
  let x16 := (if (x12 < owed.2.2.1) then x12 else owed.2.2.1)
  let x17 := (x6 == 2)
  let x18 := (if (x10 < owed.2.1) then x10 else owed.2.1)
  let x19 := (IntKind.i64.wrap (x10 - x18))
  let x20 := (if (x19 < owed.1) then x19 else owed.1)
  let x21 := (if (x19 < owed.2.1) then x19 else owed.2.1)
  let x22 := (if (x19 < owed.2.2.1) then x19 else owed.2.2.1)
  let x23 := (if (x10 < owed.2.2.1) then x10 else owed.2.2.1)
  let x24 := (IntKind.i64.wrap (x10 - x23))
  let x25 := (if (x24 < owed.1) then x24 else owed.1)
  let x26 := (if (x24 < owed.2.1) then x24 else owed.2.1)
  let x27 := (if (x24 < owed.2.2.1) then x24 else owed.2.2.1)
  let x28 := (IntKind.i64.wrap (amount - (if (amount < owed.2.1) then amount else owed.2.1)))
  let x29 := (if (x28 < owed.1) then x28 else owed.1)
  let x30 := (IntKind.i64.wrap (x28 - x29))
  let x31 := (if (x30 < owed.1) then x30 else owed.1)
  let x32 := (if (x30 < owed.2.1) then x30 else owed.2.1)
  let x33 := (if (x30 < owed.2.2.1) then x30 else owed.2.2.1)
  let x34 := (if (x28 < owed.2.1) then x28 else owed.2.1)
  let x35 := (IntKind.i64.wrap (x28 - x34))
  let x36 := (if (x35 < owed.1) then x35 else owed.1)
  let x37 := (if (x35 < owed.2.1) then x35 else owed.2.1)
  let x38 := (if (x35 < owed.2.2.1) then x35 else owed.2.2.1)
  let x39 := (if (x28 < owed.2.2.1) then x28 else owed.2.2.1)
  let x40 := (IntKind.i64.wrap (x28 - x39))
  let x41 := (if (x40 < owed.1) then x40 else owed.1)
  let x42 := (if (x40 < owed.2.1) then x40 else owed.2.1)
  let x43 := (if (x40 < owed.2.2.1) then x40 else owed.2.2.1)
  let x44 := (if (amount < owed.2.2.1) then amount else owed.2.2.1)
  let x45 := (IntKind.i64.wrap (amount - x44))
  let x46 := (if (x45 < owed.1) then x45 else owed.1)
  let x47 := (IntKind.i64.wrap (x45 - x46))
  let x48 := (if (x47 < owed.1) then x47 else owed.1)
  let x49 := (if (x47 < owed.2.1) then x47 else owed.2.1)
  let x50 := (if (x47 < owed.2.2.1) then x47 else owed.2.2.1)
  let x51 := (if (x45 < owed.2.1) then x45 else owed.2.1)
  let x52 := (IntKind.i64.wrap (x45 - x51))
  let x53 := (if (x52 < owed.1) then x52 else owed.1)
  let x54 := (if (x52 < owed.2.1) then x52 else owed.2.1)
  let x55 := (if (x52 < owed.2.2.1) then x52 else owed.2.2.1)
  let x56 := (if (x45 < owed.2.2.1) then x45 else owed.2.2.1)
  let x57 := (IntKind.i64.wrap (x45 - x56))
  let x58 := (if (x57 < owed.1) then x57 else owed.1)
  let x59 := (if (x57 < owed.2.1) then x57 else owed.2.1)
  let x60 := (if (x57 < owed.2.2.1) then x57 else owed.2.2.1)
  (bif (bif decide (order_ < 0) then true else decide (order_ ≥ 6)) then ⟨(bif decide (order_ < 0) then true else true), false, (((0 : Int), (0 : Int), (0 : Int), (0 : Int), (0 : Int), ()), (2 : Int), ()), (), ()⟩ else (bif (bif decide (owed.1 < 0) then true else (bif decide (owed.2.1 < 0) then true else decide (owed.2.2.1 < 0))) then ⟨x2, false, (((0 : Int), (0 : Int), (0 : Int), (0 : Int), (0 : Int), ()), (2 : Int), ()), (), ()⟩ else (bif decide (amount < 1) then ⟨x2, false, (((0 : Int), (0 : Int), (0 : Int), (0 : Int), (0 : Int), ()), (4 : Int), ()), (), ()⟩ else (bif (x4 == 3) then (bif x7 then (bif x9 then ⟨x2, false, ((x13, (0 : Int), (0 : Int), (IntKind.i64.wrap (x12 - x13)), (0 : Int), ()), (0 : Int), ()), (), ()⟩ else (bif x14 then ⟨x2, false, ((x11, x15, (0 : Int), (IntKind.i64.wrap (x12 - x15)), (0 : Int), ()), (0 : Int), ()), (), ()⟩ else ⟨x2, false, ((x11, (0 : Int), x16, (IntKind.i64.wrap (x12 - x16)), (0 : Int), ()), (0 : Int), ()), (), ()⟩)) else (bif x17 then (bif x9 then ⟨x2, false, ((x20, x18, (0 : Int), (IntKind.i64.wrap (x19 - x20)), (0 : Int), ()), (0 : Int), ()), (), ()⟩ else (bif x14 then ⟨x2, false, (((if (amount < owed.1) then amount else owed.1), x21, (0 : Int), (IntKind.i64.wrap (x19 - x21)), (0 : Int), ()), (0 : Int), ()), (), ()⟩ else ⟨x2, false, (((if (amount < owed.1) then amount else owed.1), x18, x22, (IntKind.i64.wrap (x19 - x22)), (0 : Int), ()), (0 : Int), ()), (), ()⟩)) else (bif x9 then ⟨x2, false, ((x25, (0 : Int), x23, (IntKind.i64.wrap (x24 - x25)), (0 : Int), ()), (0 : Int), ()), (), ()⟩ else (bif x14 then ⟨x2, false, (((if (amount < owed.1) then amount else owed.1), x26, x23, (IntKind.i64.wrap (x24 - x26)), (0 : Int), ()), (0 : Int), ()), (), ()⟩ else ⟨x2, false, (((if (amount < owed.1) then amount else owed.1), (0 : Int), x27, (IntKind.i64.wrap (x24 - x27)), (0 : Int), ()), (0 : Int), ()), (), ()⟩)))) else (bif (x4 == 2) then (bif x7 then (bif x9 then ⟨x2, false, ((x31, (if (amount < owed.2.1) then amount else owed.2.1), (0 : Int), (IntKind.i64.wrap (x30 - x31)), (0 : Int), ()), (0 : Int), ()), (), ()⟩ else (bif x14 then ⟨x2, false, ((x29, x32, (0 : Int), (IntKind.i64.wrap (x30 - x32)), (0 : Int), ()), (0 : Int), ()), (), ()⟩ else ⟨x2, false, ((x29, (if (amount < owed.2.1) then amount else owed.2.1), x33, (IntKind.i64.wrap (x30 - x33)), (0 : Int), ()), (0 : Int), ()), (), ()⟩)) else (bif x17 then (bif x9 then ⟨x2, false, ((x36, x34, (0 : Int), (IntKind.i64.wrap (x35 - x36)), (0 : Int), ()), (0 : Int), ()), (), ()⟩ else (bif x14 then ⟨x2, false, (((0 : Int), x37, (0 : Int), (IntKind.i64.wrap (x35 - x37)), (0 : Int), ()), (0 : Int), ()), (), ()⟩ else ⟨x2, false, (((0 : Int), x34, x38, (IntKind.i64.wrap (x35 - x38)), (0 : Int), ()), (0 : Int), ()), (), ()⟩)) else (bif x9 then ⟨x2, false, ((x41, (if (amount < owed.2.1) then amount else owed.2.1), x39, (IntKind.i64.wrap (x40 - x41)), (0 : Int), ()), (0 : Int), ()), (), ()⟩ else (bif x14 then ⟨x2, false, (((0 : Int), x42, x39, (IntKind.i64.wrap (x40 - x42)), (0 : Int), ()), (0 : Int), ()), (), ()⟩ else ⟨x2, false, (((0 : Int), (if (amount < owed.2.1) then amount else owed.2.1), x43, (IntKind.i64.wrap (x40 - x43)), (0 : Int), ()), (0 : Int), ()), (), ()⟩)))) else (bif x7 then (bif x9 then ⟨x2, false, ((x48, (0 : Int), x44, (IntKind.i64.wrap (x47 - x48)), (0 : Int), ()), (0 : Int), ()), (), ()⟩ else (bif x14 then ⟨x2, false, ((x46, x49, x44, (IntKind.i64.wrap (x47 - x49)), (0 : Int), ()), (0 : Int), ()), (), ()⟩ else ⟨x2, false, ((x46, (0 : Int), x50, (IntKind.i64.wrap (x47 - x50)), (0 : Int), ()), (0 : Int), ()), (), ()⟩)) else (bif x17 then (bif x9 then ⟨x2, false, ((x53, x51, x44, (IntKind.i64.wrap (x52 - x53)), (0 : Int), ()), (0 : Int), ()), (), ()⟩ else (bif x14 then ⟨x2, false, (((0 : Int), x54, x44, (IntKind.i64.wrap (x52 - x54)), (0 : Int), ()), (0 : Int), ()), (), ()⟩ else ⟨x2, false, (((0 : Int), x51, x55, (IntKind.i64.wrap (x52 - x55)), (0 : Int), ()), (0 : Int), ()), (), ()⟩)) else (bif x9 then ⟨x2, false, ((x58, (0 : Int), x56, (IntKind.i64.wrap (x57 - x58)), (0 : Int), ()), (0 : Int), ()), (), ()⟩ else (bif x14 then ⟨x2, false, (((0 : Int), x59, x56, (IntKind.i64.wrap (x57 - x59)), (0 : Int), ()), (0 : Int), ()), (), ()⟩ else ⟨x2, false, (((0 : Int), (0 : Int), x60, (IntKind.i64.wrap (x57 - x60)), (0 : Int), ()), (0 : Int), ()), (), ()⟩))))))))) := by kernel_rfl
noncomputable def tbl35 : List (Ent TT) := ⟨76, g_allocate, F_allocate⟩ :: tbl34
theorem tbl35_ok : TblOK prog globs tbl35 := tbl_cons (by kernel_rfl) F_allocate_ok tbl34_ok
noncomputable def C_recover_ : Cx TT := cxB tbl35 Go.Proofs.Tryz.f75.ntmps [] [] [] [] []
noncomputable def k_recover_ (a : g_recover_.args.ty) (h : tysO TT g_recover_.hp) : Nat := 0
noncomputable def F_recover_ : g_recover_.args.ty → tysO TT g_recover_.hp → Res TT g_recover_ := fun a h => bodyG C_recover_ g_recover_ Go.Proofs.Tryz.f75 [] (k_recover_ a h) a h
theorem F_recover__ok : FOK prog globs 75 g_recover_ F_recover_ :=
  bodyG_sound (cx := C_recover_) mix (cxB_ok tbl35_ok _ _ _ _ _ _) (f := 75) (fn := Go.Proofs.Tryz.f75) (by kernel_rfl) (by kernel_rfl) (by kernel_rfl) (by kernel_rfl) _
theorem F_recover__eq (left : Int) (amount : Int) : F_recover_ (left, amount, ()) () =
  (bif decide (left < 0) then ⟨true, false, (((0 : Int), (0 : Int), (0 : Int), (0 : Int), (0 : Int), ()), (2 : Int), ()), (), ()⟩ else (bif decide (amount < 1) then ⟨true, false, (((0 : Int), (0 : Int), (0 : Int), (0 : Int), (0 : Int), ()), (4 : Int), ()), (), ()⟩ else ⟨true, false, (((0 : Int), (0 : Int), (0 : Int), (IntKind.i64.wrap (amount - (if (amount < left) then amount else left))), (if (amount < left) then amount else left), ()), (0 : Int), ()), (), ()⟩)) := by kernel_rfl
noncomputable def tbl36 : List (Ent TT) := ⟨75, g_recover_, F_recover_⟩ :: tbl35
theorem tbl36_ok : TblOK prog globs tbl36 := tbl_cons (by kernel_rfl) F_recover__ok tbl35_ok
noncomputable def C_some_ : Cx TT := cxB tbl36 Go.Proofs.Tryz.f80.ntmps [(4, s_some__4)] [] [14] [] []
noncomputable def k_some_ (a : g_some_.args.ty) (h : tysO TT g_some_.hp) : Nat := h.1.length + 2
noncomputable def F_some_ : g_some_.args.ty → tysO TT g_some_.hp → Res TT g_some_ := fun a h => bodyG C_some_ g_some_ Go.Proofs.Tryz.f80 [] (k_some_ a h) a h
theorem F_some__ok : FOK prog globs 80 g_some_ F_some_ :=
  bodyG_sound (cx := C_some_) mix (cxB_ok tbl36_ok _ _ _ _ _ _) (f := 80) (fn := Go.Proofs.Tryz.f80) (by kernel_rfl) (by kernel_rfl) (by kernel_rfl) (by kernel_rfl) _
noncomputable def L_some__4 (k : Nat) (v : s_some__4.ty TT) : Res TT g_some_ := loopG C_some_ g_some_ Go.Proofs.Tryz.f80 [] k (todoF Go.Proofs.Tryz.f80 4) (SS.st s_some__4 0 v)
theorem F_some__eq (all : List T93) : F_some_ ((), ()) (all, ()) =
  (L_some__4 (k_some_ ((), ()) (all, ())) (((), (), ((all.length : Nat) : Int), (0 : Int), ()), all, ([] : List (Int × Int × Int × Unit)), ())) := by kernel_rfl
theorem L_some__4_eq (k : Nat) (t7 : Int) (t8 : Int) (all : List T93) (out : List T93) : L_some__4 (k + 1) (((), (), t7, t8, ()), (all, out, ())) =
  let x0 := ((decide (0 ≤ t8) && decide (t8 < ((all.length : Nat) : Int))) && (Nat.blt t8.toNat all.length))
  let x1 := [(all.getD t8.toNat ((0 : Int), (0 : Int), (0 : Int), ()))]
  let x2 := (L_some__4 k (((), (), t7, (IntKind.i64.wrap (t8 + 1)), ()), all, (out ++ x1), ()))
  let x3 := (L_some__4 k (((), (), t7, (IntKind.i64.wrap (t8 + 1)), ()), all, out, ()))
  (bif decide (t8 < t7) then (bif decide ((((all.getD t8.toNat ((0 : Int), (0 : Int), (0 : Int), ())).2).2).1 > 0) then ⟨((x0 && (Nat.ble ((out.length + x1.length) * 24) 140737488355328)) && x2.ok), x2.pan, x2.ret, x2.out, x2.pv⟩ else ⟨(x0 && x3.ok), x3.pan, x3.ret, x3.out, x3.pv⟩) else ⟨true, false, (), ((), out, ()), ()⟩) := by kernel_rfl
noncomputable def tbl37 : List (Ent TT) := ⟨80, g_some_, F_some_⟩ :: tbl36
theorem tbl37_ok : TblOK prog globs tbl37 := tbl_cons (by kernel_rfl) F_some__ok tbl36_ok
noncomputable def C_entries : Cx TT := cxB tbl37 Go.Proofs.Tryz.f31.ntmps [] [] [] [] []
noncomputable def k_entries (a : g_entries.args.ty) (h : tysO TT g_entries.hp) : Nat := 0
noncomputable def F_entries : g_entries.args.ty → tysO TT g_entries.hp → Res TT g_entries := fun a h => bodyG C_entries g_entries Go.Proofs.Tryz.f31 [] (k_entries a h) a h
theorem F_entries_ok : FOK prog globs 31 g_entries F_entries :=
  bodyG_sound (cx := C_entries) mix (cxB_ok tbl37_ok _ _ _ _ _ _) (f := 31) (fn := Go.Proofs.Tryz.f31) (by kernel_rfl) (by kernel_rfl) (by kernel_rfl) (by kernel_rfl) _
theorem F_entries_eq (parts : T34) : F_entries (parts, ()) () =
  let x0 := (F_some_ ((), ()) ([((0 : Int), (3 : Int), parts.1, ()), ((0 : Int), (2 : Int), parts.2.1, ()), ((0 : Int), (1 : Int), parts.2.2.1, ()), ((0 : Int), (4 : Int), parts.2.2.2.1, ()), ((0 : Int), (10 : Int), parts.2.2.2.2)], ()))
  ⟨x0.ok, false, (), (x0.out : Unit × (List (Int × Int × Int × Unit)) × Unit).2, ()⟩ := by kernel_rfl
noncomputable def tbl38 : List (Ent TT) := ⟨31, g_entries, F_entries⟩ :: tbl37
theorem tbl38_ok : TblOK prog globs tbl38 := tbl_cons (by kernel_rfl) F_entries_ok tbl37_ok
noncomputable def C_undo : Cx TT := cxB tbl38 Go.Proofs.Tryz.f41.ntmps [(4, s_undo_4)] [] [] [] []
noncomputable def k_undo (a : g_undo.args.ty) (h : tysO TT g_undo.hp) : Nat := 10
noncomputable def F_undo : g_undo.args.ty → tysO TT g_undo.hp → Res TT g_undo := fun a h => bodyG C_undo g_undo Go.Proofs.Tryz.f41 [] (k_undo a h) a h
theorem F_undo_ok : FOK prog globs 41 g_undo F_undo :=
  bodyG_sound (cx := C_undo) mix (cxB_ok tbl38_ok _ _ _ _ _ _) (f := 41) (fn := Go.Proofs.Tryz.f41) (by kernel_rfl) (by kernel_rfl) (by kernel_rfl) (by kernel_rfl) _
noncomputable def L_undo_4 (k : Nat) (v : s_undo_4.ty TT) : Res TT g_undo := loopG C_undo g_undo Go.Proofs.Tryz.f41 [] k (todoF Go.Proofs.Tryz.f41 4) (SS.st s_undo_4 0 v)
theorem F_undo_eq (parts : T34) : F_undo (parts, ()) () =
  let x0 := (L_undo_4 (k_undo (parts, ()) ()) (((), (), (((((F_entries (parts, ()) ()).out : (List (Int × Int × Int × Unit)) × Unit).1).length : Nat) : Int), (0 : Int), ()), ((F_entries (parts, ()) ()).out : (List (Int × Int × Int × Unit)) × Unit)))
  ⟨((F_entries (parts, ()) ()).ok && x0.ok), x0.pan, x0.ret, x0.out, x0.pv⟩ := by kernel_rfl
theorem L_undo_4_eq (k : Nat) (t9 : Int) (t10 : Int) (out : List T93) : L_undo_4 (k + 1) (((), (), t9, t10, ()), (out, ())) =
  let x0 := (out.getD t10.toNat ((0 : Int), (0 : Int), (0 : Int), ())).2
  let x1 := (L_undo_4 k (((), (), t9, (IntKind.i64.wrap (t10 + 1)), ()), (out.set t10.toNat (x0.1, (out.getD t10.toNat ((0 : Int), (0 : Int), (0 : Int), ())).1, x0.2)), ()))
  (bif decide (t10 < t9) then ⟨(((((decide (0 ≤ t10) && decide (t10 < ((out.length : Nat) : Int))) && (Nat.blt t10.toNat out.length)) && (decide (0 ≤ t10) && decide (t10 < ((out.length : Nat) : Int)))) && (Nat.blt t10.toNat out.length)) && x1.ok), x1.pan, x1.ret, x1.out, x1.pv⟩ else ⟨true, false, (), (out, ()), ()⟩) := by kernel_rfl
noncomputable def tbl39 : List (Ent TT) := ⟨41, g_undo, F_undo⟩ :: tbl38
theorem tbl39_ok : TblOK prog globs tbl39 := tbl_cons (by kernel_rfl) F_undo_ok tbl38_ok
end Go.Proofs.YtlflclfhldghbaaGreatDoor.Fs
end
section
set_option maxRecDepth 100000
namespace Go.Proofs.YtlflclfhldghbaaGreatDoor.Fs
open Go Go.Proofs.YtlflclfhldghbaaGreatDoor.Ls
noncomputable def C_sound : Cx TT := cxB tbl39 Go.Proofs.Tryz.f132.ntmps [(6, s_sound_6)] [] [] [37] []
noncomputable def k_sound (a : g_sound.args.ty) (h : tysO TT g_sound.hp) : Nat := 4 * h.1.length + 20
noncomputable def F_sound : g_sound.args.ty → tysO TT g_sound.hp → Res TT g_sound := fun a h => bodyG C_sound g_sound Go.Proofs.Tryz.f132 [12] (k_sound a h + 10) a h
theorem F_sound_ok : FOK prog globs 132 g_sound F_sound :=
  bodyG_sound (cx := C_sound) mix (cxB_ok tbl39_ok _ _ _ _ _ _) (f := 132) (fn := Go.Proofs.Tryz.f132) (by kernel_rfl) (by kernel_rfl) (by kernel_rfl) (by kernel_rfl) _
noncomputable def L_sound_6 (k : Nat) (v : s_sound_6.ty TT) : Res TT g_sound := loopG C_sound g_sound Go.Proofs.Tryz.f132 [12] k (todoF Go.Proofs.Tryz.f132 6) (SS.st s_sound_6 0 v)
theorem F_sound_eq (plan : List T123) : F_sound ((), ()) (plan, ()) =
  let x0 := (L_sound_6 ((k_sound ((), ()) (plan, ())) + 10) ((true, (0 : Int), (), (), ((plan.length : Nat) : Int), (0 : Int), ()), plan, (List.replicate ((0 : Int).toNat) (0 : Int)), ()))
  ⟨((decide ((0 : Int) ≤ (0 : Int)) && (decide (0 ≤ (IntKind.i64.wrap (2 * ((plan.length : Nat) : Int)))) && decide (((IntKind.i64.wrap (2 * ((plan.length : Nat) : Int))) * ((8 : Nat) : Int)) ≤ ((140737488355328 : Nat) : Int)))) && x0.ok), x0.pan, x0.ret, x0.out, x0.pv⟩ := by kernel_rfl
theorem L_sound_6_eq (k : Nat) (good : Bool) (last : Int) (t15 : Int) (t16 : Int) (plan : List T123) (amounts : List Int) : L_sound_6 ((k + 10) + 1) ((good, last, (), (), t15, t16, ()), (plan, amounts, ())) =
  let x0 := (plan.getD t16.toNat ((0 : Int), (0 : Int), (0 : Int), false, ()))
  let x1 := x0.1
  let x2 := decide (x1 ≤ last)
  let x3 := ((decide (0 ≤ t16) && decide (t16 < ((plan.length : Nat) : Int))) && (Nat.blt t16.toNat plan.length))
  let x4 := (bif x2 then x3 else x3)
  let x5 := (⟨x4, false, false, ((), ()), ()⟩ : Res TT g_sound)
  let x6 := x0.2
  let x7 := x6.1
  let x8 := x6.2.1
  let x9 := [x7]
  let x10 := (x4 && (Nat.ble ((amounts.length + x9.length) * 8) 140737488355328))
  let x11 := (amounts ++ x9)
  let x12 := [x8]
  let x13 := (L_sound_6 (((((((k + 1) + 1) + 1) + 1) + 1) + 1) + 1) ((good, x1, (), (), t15, (IntKind.i64.wrap (t16 + 1)), ()), plan, (x11 ++ x12), ()))
  (bif decide (t16 < t15) then (bif (bif x2 then true else decide (x1 > 3652059)) then x5 else (bif decide (x7 < 0) then x5 else (bif decide (x8 < 0) then ⟨x10, false, false, ((), ()), ()⟩ else ⟨((x10 && (Nat.ble ((x11.length + x12.length) * 8) 140737488355328)) && x13.ok), x13.pan, x13.ret, x13.out, x13.pv⟩))) else ⟨(bif good then (F_msum ((), ()) (amounts, ())).ok else true), false, (bif good then (((F_msum ((), ()) (amounts, ())).ret : Int × Bool × Unit).2).1 else good), ((), ()), ()⟩) := by kernel_rfl
noncomputable def tbl40 : List (Ent TT) := ⟨132, g_sound, F_sound⟩ :: tbl39
theorem tbl40_ok : TblOK prog globs tbl40 := tbl_cons (by kernel_rfl) F_sound_ok tbl39_ok
noncomputable def C_front : Cx TT := cxB tbl40 Go.Proofs.Tryz.f133.ntmps [(6, s_front_6)] [] [] [] []
noncomputable def k_front (a : g_front.args.ty) (h : tysO TT g_front.hp) : Nat := h.1.length + 2
noncomputable def F_front : g_front.args.ty → tysO TT g_front.hp → Res TT g_front := fun a h => bodyG C_front g_front Go.Proofs.Tryz.f133 [] (k_front a h) a h
theorem F_front_ok : FOK prog globs 133 g_front F_front :=
  bodyG_sound (cx := C_front) mix (cxB_ok tbl40_ok _ _ _ _ _ _) (f := 133) (fn := Go.Proofs.Tryz.f133) (by kernel_rfl) (by kernel_rfl) (by kernel_rfl) (by kernel_rfl) _
noncomputable def L_front_6 (k : Nat) (v : s_front_6.ty TT) : Res TT g_front := loopG C_front g_front Go.Proofs.Tryz.f133 [] k (todoF Go.Proofs.Tryz.f133 6) (SS.st s_front_6 0 v)
theorem F_front_eq (pos : T115) (plan : List T123) : F_front ((), pos, ()) (plan, ()) =
  (bif decide (pos.2.1 ≤ 0) then ⟨true, false, ((plan.length : Nat) : Int), ((), ()), ()⟩ else (L_front_6 (k_front ((), pos, ()) (plan, ())) (((), (if (0 > pos.1) then (0 : Int) else pos.1), ((plan.length : Nat) : Int), (0 : Int), ()), plan, ()))) := by kernel_rfl
theorem L_front_6_eq (k : Nat) (left : Int) (t17 : Int) (t18 : Int) (plan : List T123) : L_front_6 (k + 1) (((), left, t17, t18, ()), (plan, ())) =
  let x0 := (plan.getD t18.toNat ((0 : Int), (0 : Int), (0 : Int), false, ())).2
  let x1 := (IntKind.i64.wrap (x0.1 + x0.2.1))
  let x2 := ((((decide (0 ≤ t18) && decide (t18 < ((plan.length : Nat) : Int))) && (Nat.blt t18.toNat plan.length)) && (decide (0 ≤ t18) && decide (t18 < ((plan.length : Nat) : Int)))) && (Nat.blt t18.toNat plan.length))
  let x3 := (bif (t18 == (IntKind.i64.wrap (((plan.length : Nat) : Int) - 1))) then x2 else x2)
  let x4 := (L_front_6 k (((), (IntKind.i64.wrap (left - x1)), t17, (IntKind.i64.wrap (t18 + 1)), ()), plan, ()))
  (bif decide (t18 < t17) then (bif (bif (t18 == (IntKind.i64.wrap (((plan.length : Nat) : Int) - 1))) then true else decide (x1 > left)) then ⟨x3, false, t18, ((), ()), ()⟩ else ⟨(x3 && x4.ok), x4.pan, x4.ret, x4.out, x4.pv⟩) else ⟨true, false, (0 : Int), ((), ()), ()⟩) := by kernel_rfl
noncomputable def tbl41 : List (Ent TT) := ⟨133, g_front, F_front⟩ :: tbl40
theorem tbl41_ok : TblOK prog globs tbl41 := tbl_cons (by kernel_rfl) F_front_ok tbl40_ok
noncomputable def C_oldest : Cx TT := cxB tbl41 Go.Proofs.Tryz.f72.ntmps [] [] [] [] []
noncomputable def k_oldest (a : g_oldest.args.ty) (h : tysO TT g_oldest.hp) : Nat := 0
noncomputable def F_oldest : g_oldest.args.ty → tysO TT g_oldest.hp → Res TT g_oldest := fun a h => bodyG C_oldest g_oldest Go.Proofs.Tryz.f72 [] (k_oldest a h) a h
theorem F_oldest_ok : FOK prog globs 72 g_oldest F_oldest :=
  bodyG_sound (cx := C_oldest) mix (cxB_ok tbl41_ok _ _ _ _ _ _) (f := 72) (fn := Go.Proofs.Tryz.f72) (by kernel_rfl) (by kernel_rfl) (by kernel_rfl) (by kernel_rfl) _
theorem F_oldest_eq (pos : T115) (plan : List T123) : F_oldest ((), pos, ()) (plan, ()) =
  let x0 := ((F_sound ((), ()) (plan, ())).ok && (F_front ((), pos, ()) (plan, ())).ok)
  (bif (!((F_sound ((), ()) (plan, ())).ret : Bool)) then ⟨(F_sound ((), ()) (plan, ())).ok, false, ((0 : Int), false, ()), ((), ()), ()⟩ else (bif (((F_front ((), pos, ()) (plan, ())).ret : Int) == ((plan.length : Nat) : Int)) then ⟨x0, false, ((0 : Int), false, ()), ((), ()), ()⟩ else ⟨x0, false, (((F_front ((), pos, ()) (plan, ())).ret : Int), true, ()), ((), ()), ()⟩)) := by kernel_rfl
noncomputable def tbl42 : List (Ent TT) := ⟨72, g_oldest, F_oldest⟩ :: tbl41
theorem tbl42_ok : TblOK prog globs tbl42 := tbl_cons (by kernel_rfl) F_oldest_ok tbl41_ok
noncomputable def C_adays : Cx TT := cxB tbl42 Go.Proofs.Tryz.f68.ntmps [] [] [] [] []
noncomputable def k_adays (a : g_adays.args.ty) (h : tysO TT g_adays.hp) : Nat := 0
noncomputable def F_adays : g_adays.args.ty → tysO TT g_adays.hp → Res TT g_adays := fun a h => bodyG C_adays g_adays Go.Proofs.Tryz.f68 [] (k_adays a h) a h
theorem F_adays_ok : FOK prog globs 68 g_adays F_adays :=
  bodyG_sound (cx := C_adays) mix (cxB_ok tbl42_ok _ _ _ _ _ _) (f := 68) (fn := Go.Proofs.Tryz.f68) (by kernel_rfl) (by kernel_rfl) (by kernel_rfl) (by kernel_rfl) _
theorem F_adays_eq (pos : T115) (today : Int) (plan : List T123) : F_adays ((), pos, today, ()) (plan, ()) =
  let x0 := (((F_oldest ((), pos, ()) (plan, ())).ret : Int × Bool × Unit).1).toNat
  let x1 := (plan.getD x0 ((0 : Int), (0 : Int), (0 : Int), false, ())).1
  let x2 := decide (today ≤ x1)
  let x3 := ((((F_oldest ((), pos, ()) (plan, ())).ok && (decide (0 ≤ ((F_oldest ((), pos, ()) (plan, ())).ret : Int × Bool × Unit).1) && decide (((F_oldest ((), pos, ()) (plan, ())).ret : Int × Bool × Unit).1 < ((plan.length : Nat) : Int)))) && (Nat.blt x0 plan.length)) && true)
  (bif (!(((F_oldest ((), pos, ()) (plan, ())).ret : Int × Bool × Unit).2).1) then ⟨(F_oldest ((), pos, ()) (plan, ())).ok, false, (0 : Int), ((), ()), ()⟩ else ⟨(bif x2 then x3 else x3), false, (bif x2 then (0 : Int) else (IntKind.i64.wrap (today - x1))), ((), ()), ()⟩) := by kernel_rfl
noncomputable def tbl43 : List (Ent TT) := ⟨68, g_adays, F_adays⟩ :: tbl42
theorem tbl43_ok : TblOK prog globs tbl43 := tbl_cons (by kernel_rfl) F_adays_ok tbl42_ok
noncomputable def C_apast : Cx TT := cxB tbl43 Go.Proofs.Tryz.f69.ntmps [(9, s_apast_9)] [] [] [] []
noncomputable def k_apast (a : g_apast.args.ty) (h : tysO TT g_apast.hp) : Nat := h.1.length + 2
noncomputable def F_apast : g_apast.args.ty → tysO TT g_apast.hp → Res TT g_apast := fun a h => bodyG C_apast g_apast Go.Proofs.Tryz.f69 [] (k_apast a h) a h
theorem F_apast_ok : FOK prog globs 69 g_apast F_apast :=
  bodyG_sound (cx := C_apast) mix (cxB_ok tbl43_ok _ _ _ _ _ _) (f := 69) (fn := Go.Proofs.Tryz.f69) (by kernel_rfl) (by kernel_rfl) (by kernel_rfl) (by kernel_rfl) _
noncomputable def L_apast_9 (k : Nat) (v : s_apast_9.ty TT) : Res TT g_apast := loopG C_apast g_apast Go.Proofs.Tryz.f69 [] k (todoF Go.Proofs.Tryz.f69 9) (SS.st s_apast_9 0 v)
theorem F_apast_eq (pos : T115) (today : Int) (plan : List T123) : F_apast ((), pos, today, ()) (plan, ()) =
  let x0 := (!(((F_oldest ((), pos, ()) (plan, ())).ret : Int × Bool × Unit).2).1)
  let x1 := (((F_oldest ((), pos, ()) (plan, ())).ret : Int × Bool × Unit).1).toNat
  let x2 := (bif x0 then (F_oldest ((), pos, ()) (plan, ())).ok else (((F_oldest ((), pos, ()) (plan, ())).ok && (decide (0 ≤ ((F_oldest ((), pos, ()) (plan, ())).ret : Int × Bool × Unit).1) && decide (((F_oldest ((), pos, ()) (plan, ())).ret : Int × Bool × Unit).1 < ((plan.length : Nat) : Int)))) && (Nat.blt x1 plan.length)))
  let x3 := ((x2 && (decide (0 ≤ (IntKind.i64.wrap (((plan.length : Nat) : Int) - 1))) && decide ((IntKind.i64.wrap (((plan.length : Nat) : Int) - 1)) < ((plan.length : Nat) : Int)))) && (Nat.blt ((IntKind.i64.wrap (((plan.length : Nat) : Int) - 1)).toNat) plan.length))
  let x4 := (L_apast_9 (k_apast ((), pos, today, ()) (plan, ())) ((today, (), (IntKind.i64.wrap (0 - (if (0 > pos.1) then (0 : Int) else pos.1))), (), ((plan.length : Nat) : Int), (0 : Int), ()), plan, pos, ()))
  (bif (bif x0 then true else decide ((plan.getD x1 ((0 : Int), (0 : Int), (0 : Int), false, ())).1 ≥ today)) then ⟨x2, false, (0 : Int), ((), ()), ()⟩ else (bif decide ((plan.getD ((IntKind.i64.wrap (((plan.length : Nat) : Int) - 1)).toNat) ((0 : Int), (0 : Int), (0 : Int), false, ())).1 < today) then ⟨x3, false, pos.2.1, ((), ()), ()⟩ else ⟨(x3 && x4.ok), x4.pan, x4.ret, x4.out, x4.pv⟩)) := by kernel_rfl
theorem L_apast_9_eq (k : Nat) (today : Int) (sum : Int) (t45 : Int) (t46 : Int) (plan : List T123) (pos : T115) : L_apast_9 (k + 1) ((today, (), sum, (), t45, t46, ()), (plan, pos, ())) =
  let x0 := (plan.getD t46.toNat ((0 : Int), (0 : Int), (0 : Int), false, ()))
  let x1 := ((decide (0 ≤ t46) && decide (t46 < ((plan.length : Nat) : Int))) && (Nat.blt t46.toNat plan.length))
  let x2 := x0.2
  let x3 := (L_apast_9 k ((today, (), (IntKind.i64.wrap (sum + (IntKind.i64.wrap (x2.1 + x2.2.1)))), (), t45, (IntKind.i64.wrap (t46 + 1)), ()), plan, pos, ()))
  (bif decide (t46 < t45) then (bif decide (x0.1 ≥ today) then ⟨x1, false, (if (pos.2.1 < sum) then pos.2.1 else sum), ((), ()), ()⟩ else ⟨(x1 && x3.ok), x3.pan, x3.ret, x3.out, x3.pv⟩) else ⟨true, false, (if (pos.2.1 < sum) then pos.2.1 else sum), ((), ()), ()⟩) := by kernel_rfl
noncomputable def tbl44 : List (Ent TT) := ⟨69, g_apast, F_apast⟩ :: tbl43
theorem tbl44_ok : TblOK prog globs tbl44 := tbl_cons (by kernel_rfl) F_apast_ok tbl43_ok
noncomputable def C_missed : Cx TT := cxB tbl44 Go.Proofs.Tryz.f92.ntmps [(7, s_missed_7)] [] [42] [] []
noncomputable def k_missed (a : g_missed.args.ty) (h : tysO TT g_missed.hp) : Nat := h.1.length + 2
noncomputable def F_missed : g_missed.args.ty → tysO TT g_missed.hp → Res TT g_missed := fun a h => bodyG C_missed g_missed Go.Proofs.Tryz.f92 [] (k_missed a h) a h
theorem F_missed_ok : FOK prog globs 92 g_missed F_missed :=
  bodyG_sound (cx := C_missed) mix (cxB_ok tbl44_ok _ _ _ _ _ _) (f := 92) (fn := Go.Proofs.Tryz.f92) (by kernel_rfl) (by kernel_rfl) (by kernel_rfl) (by kernel_rfl) _
noncomputable def L_missed_7 (k : Nat) (v : s_missed_7.ty TT) : Res TT g_missed := loopG C_missed g_missed Go.Proofs.Tryz.f92 [] k (todoF Go.Proofs.Tryz.f92 7) (SS.st s_missed_7 0 v)
theorem F_missed_eq (pos : T115) (today : Int) (grace : Int) (plan : List T123) : F_missed ((), pos, today, grace, ()) (plan, ()) =
  let x0 := (L_missed_7 (k_missed ((), pos, today, grace, ()) (plan, ())) (((), today, grace, (), ((F_oldest ((), pos, ()) (plan, ())).ret : Int × Bool × Unit).1, ()), plan, ([] : List Int), ()))
  (bif (!(((F_oldest ((), pos, ()) (plan, ())).ret : Int × Bool × Unit).2).1) then ⟨(F_oldest ((), pos, ()) (plan, ())).ok, false, (), ((), ([] : List Int), ()), ()⟩ else ⟨((F_oldest ((), pos, ()) (plan, ())).ok && x0.ok), x0.pan, x0.ret, x0.out, x0.pv⟩) := by kernel_rfl
theorem L_missed_7_eq (k : Nat) (today : Int) (grace : Int) (i : Int) (plan : List T123) (out : List Int) : L_missed_7 (k + 1) (((), today, grace, (), i, ()), (plan, out, ())) =
  let x0 := (plan.getD i.toNat ((0 : Int), (0 : Int), (0 : Int), false, ()))
  let x1 := x0.1
  let x2 := decide (today ≤ x1)
  let x3 := (((decide (0 ≤ i) && decide (i < ((plan.length : Nat) : Int))) && (Nat.blt i.toNat plan.length)) && true)
  let x4 := (bif x2 then x3 else x3)
  let x5 := ((x4 && (decide (0 ≤ i) && decide (i < ((plan.length : Nat) : Int)))) && (Nat.blt i.toNat plan.length))
  let x6 := (L_missed_7 k (((), today, grace, (), (IntKind.i64.wrap (i + 1)), ()), plan, (out ++ [i]), ()))
  let x7 := (L_missed_7 k (((), today, grace, (), (IntKind.i64.wrap (i + 1)), ()), plan, out, ()))
  (bif decide (i < ((plan.length : Nat) : Int)) then (bif (bif x2 then decide (0 ≤ (if (0 > grace) then (0 : Int) else grace)) else decide ((IntKind.i64.wrap (today - x1)) ≤ (if (0 > grace) then (0 : Int) else grace))) then ⟨x4, false, (), ((), out, ()), ()⟩ else (bif (!x0.2.2.2.1) then ⟨((x5 && (Nat.ble ((out.length + [i].length) * 8) 140737488355328)) && x6.ok), x6.pan, x6.ret, x6.out, x6.pv⟩ else ⟨(x5 && x7.ok), x7.pan, x7.ret, x7.out, x7.pv⟩)) else ⟨true, false, (), ((), out, ()), ()⟩) := by kernel_rfl
noncomputable def tbl45 : List (Ent TT) := ⟨92, g_missed, F_missed⟩ :: tbl44
theorem tbl45_ok : TblOK prog globs tbl45 := tbl_cons (by kernel_rfl) F_missed_ok tbl44_ok
noncomputable def C_mark : Cx TT := cxB tbl45 Go.Proofs.Tryz.f94.ntmps [(4, s_mark_4)] [] [] [] []
noncomputable def k_mark (a : g_mark.args.ty) (h : tysO TT g_mark.hp) : Nat := h.2.1.length + 2
noncomputable def F_mark : g_mark.args.ty → tysO TT g_mark.hp → Res TT g_mark := fun a h => bodyG C_mark g_mark Go.Proofs.Tryz.f94 [] (k_mark a h) a h
theorem F_mark_ok : FOK prog globs 94 g_mark F_mark :=
  bodyG_sound (cx := C_mark) mix (cxB_ok tbl45_ok _ _ _ _ _ _) (f := 94) (fn := Go.Proofs.Tryz.f94) (by kernel_rfl) (by kernel_rfl) (by kernel_rfl) (by kernel_rfl) _
noncomputable def L_mark_4 (k : Nat) (v : s_mark_4.ty TT) : Res TT g_mark := loopG C_mark g_mark Go.Proofs.Tryz.f94 [] k (todoF Go.Proofs.Tryz.f94 4) (SS.st s_mark_4 0 v)
theorem F_mark_eq (plan : List T123) (rows : List Int) : F_mark ((), (), ()) (plan, rows, ()) =
  let x0 := (L_mark_4 (k_mark ((), (), ()) (plan, rows, ())) (((), (), ((rows.length : Nat) : Int), (0 : Int), ()), plan, rows, (([] : List (Int × Int × Int × Bool × Unit)) ++ plan), ()))
  ⟨((Nat.ble ((([] : List (Int × Int × Int × Bool × Unit)).length + plan.length) * 32) 140737488355328) && x0.ok), x0.pan, x0.ret, x0.out, x0.pv⟩ := by kernel_rfl
theorem L_mark_4_eq (k : Nat) (t11 : Int) (t12 : Int) (plan : List T123) (rows : List Int) (out : List T123) : L_mark_4 (k + 1) (((), (), t11, t12, ()), (plan, rows, out, ())) =
  let x0 := (bif decide ((rows.getD t12.toNat (0 : Int)) ≥ 0) then decide ((rows.getD t12.toNat (0 : Int)) < ((out.length : Nat) : Int)) else false)
  let x1 := ((decide (0 ≤ t12) && decide (t12 < ((rows.length : Nat) : Int))) && (Nat.blt t12.toNat rows.length))
  let x2 := (bif decide ((rows.getD t12.toNat (0 : Int)) ≥ 0) then x1 else x1)
  let x3 := (out.getD ((rows.getD t12.toNat (0 : Int)).toNat) ((0 : Int), (0 : Int), (0 : Int), false, ()))
  let x4 := x3.2
  let x5 := (L_mark_4 k (((), (), t11, (IntKind.i64.wrap (t12 + 1)), ()), plan, rows, (bif x0 then (out.set ((rows.getD t12.toNat (0 : Int)).toNat) (x3.1, x4.1, x4.2.1, true, ())) else out), ()))
  (bif decide (t12 < t11) then ⟨((bif x0 then ((x2 && (decide (0 ≤ (rows.getD t12.toNat (0 : Int))) && decide ((rows.getD t12.toNat (0 : Int)) < ((out.length : Nat) : Int)))) && (Nat.blt ((rows.getD t12.toNat (0 : Int)).toNat) out.length)) else x2) && x5.ok), x5.pan, x5.ret, x5.out, x5.pv⟩ else ⟨true, false, (), ((), (), out, ()), ()⟩) := by kernel_rfl
noncomputable def tbl46 : List (Ent TT) := ⟨94, g_mark, F_mark⟩ :: tbl45
theorem tbl46_ok : TblOK prog globs tbl46 := tbl_cons (by kernel_rfl) F_mark_ok tbl45_ok
end Go.Proofs.YtlflclfhldghbaaGreatDoor.Fs
end
section
set_option maxRecDepth 100000
namespace Go.Proofs.YtlflclfhldghbaaGreatDoor.Fs
open Go Go.Proofs.YtlflclfhldghbaaGreatDoor.Ls
noncomputable def C_mback : Cx TT := cxB tbl46 Go.Proofs.Tryz.f196.ntmps [] [] [] [] []
noncomputable def k_mback (a : g_mback.args.ty) (h : tysO TT g_mback.hp) : Nat := 0
noncomputable def F_mback : g_mback.args.ty → tysO TT g_mback.hp → Res TT g_mback := fun a h => bodyG C_mback g_mback Go.Proofs.Tryz.f196 [] (k_mback a h) a h
theorem F_mback_ok : FOK prog globs 196 g_mback F_mback :=
  bodyG_sound (cx := C_mback) mix (cxB_ok tbl46_ok _ _ _ _ _ _) (f := 196) (fn := Go.Proofs.Tryz.f196) (by kernel_rfl) (by kernel_rfl) (by kernel_rfl) (by kernel_rfl) _
theorem F_mback_eq (m : T201) (m_0 : List Int) (m_1 : List Int) : F_mback ((), ()) (m, m_0, m_1, ()) =
  let x0 := m.1.2.2.2.2.2.2.2.2.2.1
  let x1 := m.1.2.2.2.2.2.2.2.2.2.2
  let x2 := x1.1
  let x3 := x1.2
  let x4 := x3.1
  let x5 := x3.2
  let x6 := x5.1
  let x7 := x5.2
  let x8 := x7.1
  let x9 := x7.2
  let x10 := x9.1
  let x11 := x9.2
  let x12 := x11.1
  let x13 := x11.2.1
  let x14 := m.2.1.2.2.2.2.2.2.2.2.2
  let x15 := x14.1
  let x16 := x14.2
  let x17 := x16.1
  let x18 := x16.2
  let x19 := x18.1
  let x20 := x18.2
  let x21 := x20.1
  let x22 := x20.2
  let x23 := x22.1
  let x24 := x22.2.1
  ⟨(bif m.2.1.2.1 then true else true), false, (), ((((bif m.2.1.2.1 then m.1.1 else m.1.1), (bif m.2.1.2.1 then m.1.2.1 else m.1.2.1), (bif m.2.1.2.1 then m.1.2.2.1 else m.1.2.2.1), (bif m.2.1.2.1 then m.1.2.2.2.1 else m.1.2.2.2.1), (bif m.2.1.2.1 then m.1.2.2.2.2.1 else m.1.2.2.2.2.1), (bif m.2.1.2.1 then m.1.2.2.2.2.2.1 else m.1.2.2.2.2.2.1), (bif m.2.1.2.1 then m.1.2.2.2.2.2.2.1 else m.1.2.2.2.2.2.2.1), (bif m.2.1.2.1 then m.1.2.2.2.2.2.2.2.1 else m.1.2.2.2.2.2.2.2.1), (bif m.2.1.2.1 then m.1.2.2.2.2.2.2.2.2.1 else m.1.2.2.2.2.2.2.2.2.1), (bif m.2.1.2.1 then x0 else x0), (bif m.2.1.2.1 then x2 else x2), (bif m.2.1.2.1 then x4 else x4), (bif m.2.1.2.1 then x6 else x6), (bif m.2.1.2.1 then x8 else x8), (bif m.2.1.2.1 then x10 else x10), (bif m.2.1.2.1 then x12 else x12), (bif m.2.1.2.1 then x13 else x13), (), ()), ((bif m.2.1.2.1 then (5 : Int) else (3 : Int)), (bif m.2.1.2.1 then m.2.1.2.1 else m.2.1.2.1), (bif m.2.1.2.1 then m.2.1.2.2.1 else m.2.1.2.2.1), (bif m.2.1.2.1 then m.2.1.2.2.2.1 else m.2.1.2.2.2.1), (bif m.2.1.2.1 then m.2.1.2.2.2.2.1 else m.2.1.2.2.2.2.1), (bif m.2.1.2.1 then m.2.1.2.2.2.2.2.1 else m.2.1.2.2.2.2.2.1), (bif m.2.1.2.1 then (0 : Int) else (0 : Int)), (bif m.2.1.2.1 then (0 : Int) else (0 : Int)), (bif m.2.1.2.1 then (0 : Int) else (0 : Int)), (bif m.2.1.2.1 then x15 else x15), (bif m.2.1.2.1 then x17 else x17), (bif m.2.1.2.1 then x19 else x19), (bif m.2.1.2.1 then x21 else x21), (bif m.2.1.2.1 then x23 else x23), (bif m.2.1.2.1 then x24 else x24), ()), (), ()), (), (), ()), ()⟩ := by kernel_rfl
noncomputable def tbl47 : List (Ent TT) := ⟨196, g_mback, F_mback⟩ :: tbl46
theorem tbl47_ok : TblOK prog globs tbl47 := tbl_cons (by kernel_rfl) F_mback_ok tbl46_ok
noncomputable def C_mend : Cx TT := cxB tbl47 Go.Proofs.Tryz.f200.ntmps [] [] [] [] []
noncomputable def k_mend (a : g_mend.args.ty) (h : tysO TT g_mend.hp) : Nat := 0
noncomputable def F_mend : g_mend.args.ty → tysO TT g_mend.hp → Res TT g_mend := fun a h => bodyG C_mend g_mend Go.Proofs.Tryz.f200 [] (k_mend a h) a h
theorem F_mend_ok : FOK prog globs 200 g_mend F_mend :=
  bodyG_sound (cx := C_mend) mix (cxB_ok tbl47_ok _ _ _ _ _ _) (f := 200) (fn := Go.Proofs.Tryz.f200) (by kernel_rfl) (by kernel_rfl) (by kernel_rfl) (by kernel_rfl) _
theorem F_mend_eq (status : Int) (action : Int) (m : T201) (m_0 : List Int) (m_1 : List Int) : F_mend ((), status, action, ()) (m, m_0, m_1, ()) =
  let x0 := m.2.1.2.2.2.2.2.2.2.2.2
  let x1 := x0.2
  let x2 := x1.2
  let x3 := x2.2
  ⟨(Nat.ble ((m_1.length + [action].length) * 8) 140737488355328), false, (), ((m.1, (status, false, m.2.1.2.2.1, (0 : Int), (0 : Int), (0 : Int), (0 : Int), (0 : Int), (0 : Int), x0.1, x1.1, x2.1, x3.1, (0 : Int), x3.2.2), (), ()), (), (), (m_1 ++ [action]), ()), ()⟩ := by kernel_rfl
noncomputable def tbl48 : List (Ent TT) := ⟨200, g_mend, F_mend⟩ :: tbl47
theorem tbl48_ok : TblOK prog globs tbl48 := tbl_cons (by kernel_rfl) F_mend_ok tbl47_ok
end Go.Proofs.YtlflclfhldghbaaGreatDoor.Fs
end
section
set_option maxRecDepth 100000
namespace Go.Proofs.YtlflclfhldghbaaGreatDoor.Fs
open Go Go.Proofs.YtlflclfhldghbaaGreatDoor.Ls
noncomputable def C_mage : Cx TT := cxB tbl48 Go.Proofs.Tryz.f167.ntmps [(10, s_mage_10), (15, s_mage_15), (17, s_mage_17), (21, s_mage_21), (22, s_mage_22)] [] [33, 52, 66, 82, 92, 106, 1000010] [] [10, 15, 17, 21, 22]
noncomputable def k_mage (a : g_mage.args.ty) (h : tysO TT g_mage.hp) : Nat := 10
noncomputable def F_mage : g_mage.args.ty → tysO TT g_mage.hp → Res TT g_mage := fun a h => bodyG C_mage g_mage Go.Proofs.Tryz.f167 [] (k_mage a h) a h
theorem F_mage_ok : FOK prog globs 167 g_mage F_mage :=
  bodyG_sound (cx := C_mage) mix (cxB_ok tbl48_ok _ _ _ _ _ _) (f := 167) (fn := Go.Proofs.Tryz.f167) (by kernel_rfl) (by kernel_rfl) (by kernel_rfl) (by kernel_rfl) _
noncomputable def L_mage_10 (k : Nat) (v : s_mage_10.ty TT) : Res TT g_mage := loopG C_mage g_mage Go.Proofs.Tryz.f167 [] k (todoG Go.Proofs.Tryz.f167 10) (SS.st s_mage_10 0 v)
noncomputable def L_mage_15 (k : Nat) (v : s_mage_15.ty TT) : Res TT g_mage := loopG C_mage g_mage Go.Proofs.Tryz.f167 [] k (todoG Go.Proofs.Tryz.f167 15) (SS.st s_mage_15 0 v)
noncomputable def L_mage_17 (k : Nat) (v : s_mage_17.ty TT) : Res TT g_mage := loopG C_mage g_mage Go.Proofs.Tryz.f167 [] k (todoG Go.Proofs.Tryz.f167 17) (SS.st s_mage_17 0 v)
noncomputable def L_mage_21 (k : Nat) (v : s_mage_21.ty TT) : Res TT g_mage := loopG C_mage g_mage Go.Proofs.Tryz.f167 [] k (todoG Go.Proofs.Tryz.f167 21) (SS.st s_mage_21 0 v)
noncomputable def L_mage_22 (k : Nat) (v : s_mage_22.ty TT) : Res TT g_mage := loopG C_mage g_mage Go.Proofs.Tryz.f167 [] k (todoG Go.Proofs.Tryz.f167 22) (SS.st s_mage_22 0 v)
theorem F_mage_eq (e : T86) (m : T201) (m_0 : List Int) (m_1 : List Int) : F_mage ((), e, ()) (m, m_0, m_1, ()) =
  let x0 := (!(bif decide (e.2.1 ≥ 1) then decide (e.2.1 ≤ 3652059) else false))
  let x1 := (bif x0 then (bif decide (e.2.1 ≥ 1) then true else true) else (bif decide (e.2.1 ≥ 1) then true else true))
  let x2 := (x1 && (bif (m.2.1.1 == 8) then true else true))
  let x3 := (bif (m.2.1.1 == 4) then x2 else x2)
  let x4 := m.2.1.2.2.2.2.2.2.2.2.2
  let x5 := x4.2
  let x6 := (F_mback ((), ()) ((m.1, (m.2.1.1, m.2.1.2.1, m.2.1.2.2.1, m.2.1.2.2.2.1, m.2.1.2.2.2.2.1, m.2.1.2.2.2.2.2.1, m.2.1.2.2.2.2.2.2.1, m.2.1.2.2.2.2.2.2.2.1, m.2.1.2.2.2.2.2.2.2.2.1, x4.1, (IntKind.i64.wrap (x5.1 + 1)), x5.2), (), ()), m_0, m_1, ()))
  let x7 := (L_mage_10 (k_mage ((), e, ()) (m, m_0, m_1, ())) (((), (), ()), (x6.out : ((Int × Int × Int × Int × Int × Int × Int × Int × Int × Int × Int × Int × Int × Int × Int × Int × Int × Unit × Unit) × (Int × Bool × Int × Int × Int × Int × Int × Int × Int × Int × Int × Int × Int × Int × Int × Unit) × Unit × Unit) × Unit × Unit × Unit).1, m_0, (m_1 ++ [(1 : Int)]), e, ()))
  let x8 := (L_mage_10 (k_mage ((), e, ()) (m, m_0, m_1, ())) (((), (), ()), m, m_0, m_1, e, ()))
  (bif (bif x0 then true else decide (e.2.2.1 < 0)) then ⟨x1, false, (2 : Int), (m, (), (), m_1, ()), ()⟩ else (bif (bif (m.2.1.1 == 8) then true else (m.2.1.1 == 9)) then ⟨x2, false, (130 : Int), (m, (), (), m_1, ()), ()⟩ else (bif (bif (m.2.1.1 == 4) then decide (e.2.1 > m.2.1.2.2.2.2.2.2.1) else false) then ⟨(((x3 && x6.ok) && (Nat.ble ((m_1.length + ([(1 : Int)]).length) * 8) 140737488355328)) && x7.ok), x7.pan, x7.ret, x7.out, x7.pv⟩ else ⟨(x3 && x8.ok), x8.pan, x8.ret, x8.out, x8.pv⟩))) := by kernel_rfl
theorem L_mage_10_eq (k : Nat) (m : T201) (m_0 : List Int) (m_1 : List Int) (e_r : T86) : L_mage_10 (k + 1) (((), (), ()), (m, m_0, m_1, e_r, ())) =
  let x0 := (bif (m.2.1.1 == 3) then true else (bif (m.2.1.1 == 4) then true else (m.2.1.1 == 5)))
  let x1 := (bif (m.2.1.1 == 3) then true else (bif (m.2.1.1 == 4) then true else true))
  let x2 := (bif x0 then x1 else x1)
  let x3 := m.2.1.2.2.2.2.2.2.2.2.1
  let x4 := m.2.1.2.2.2.2.2.2.2.2.2
  let x5 := x4.1
  let x6 := x4.2
  let x7 := x6.1
  let x8 := x6.2
  let x9 := x8.1
  let x10 := x8.2
  let x11 := (L_mage_15 k (((), (), ()), (m.1, ((3 : Int), m.2.1.2.1, (IntKind.i64.wrap (m.2.1.2.2.1 + 1)), e_r.2.1, (IntKind.i64.wrap (e_r.2.1 + m.1.2.2.2.1)), (0 : Int), m.2.1.2.2.2.2.2.2.1, m.2.1.2.2.2.2.2.2.2.1, x3, x5, x7, x9, x10.1, (0 : Int), x10.2.2), (), ()), m_0, (m_1 ++ [(2 : Int)]), e_r, ()))
  let x12 := (x2 && true)
  let x13 := (L_mage_15 k (((), (), ()), (m.1, ((2 : Int), m.2.1.2), (), ()), m_0, m_1, e_r, ()))
  let x14 := (L_mage_15 k (((), (), ()), (m.1, ((1 : Int), m.2.1.2), (), ()), m_0, m_1, e_r, ()))
  let x15 := (L_mage_15 k (((), (), ()), m, m_0, m_1, e_r, ()))
  let x16 := x15.ok
  let x17 := x15.pan
  let x18 := (x15.ret : Int)
  let x19 := (x15.out : ((Int × Int × Int × Int × Int × Int × Int × Int × Int × Int × Int × Int × Int × Int × Int × Int × Int × Unit × Unit) × (Int × Bool × Int × Int × Int × Int × Int × Int × Int × Int × Int × Int × Int × Int × Int × Unit) × Unit × Unit) × Unit × Unit × (List Int) × Unit)
  let x20 := (x15.pv : Unit)
  let x21 := (F_mend ((), (6 : Int), (6 : Int), ()) ((m.1, (m.2.1.1, m.2.1.2.1, m.2.1.2.2.1, m.2.1.2.2.2.1, m.2.1.2.2.2.2.1, m.2.1.2.2.2.2.2.1, m.2.1.2.2.2.2.2.2.1, m.2.1.2.2.2.2.2.2.2.1, x3, x5, x7, (IntKind.i64.wrap (x9 + 1)), x10), (), ()), m_0, m_1, ()))
  (bif (bif x0 then (!true) else (!false)) then (bif decide (e_r.2.2.1 > m.1.2.1) then ⟨((x2 && (Nat.ble ((m_1.length + ([(2 : Int)]).length) * 8) 140737488355328)) && x11.ok), x11.pan, x11.ret, x11.out, x11.pv⟩ else (bif decide (e_r.2.2.1 > 0) then ⟨(x12 && x13.ok), x13.pan, x13.ret, x13.out, x13.pv⟩ else (bif (m.2.1.1 == 2) then ⟨(x12 && x14.ok), x14.pan, x14.ret, x14.out, x14.pv⟩ else ⟨(x12 && x16), x17, x18, x19, x20⟩))) else (bif (e_r.2.2.1 == 0) then ⟨(x2 && x21.ok), false, (0 : Int), x21.out, ()⟩ else ⟨(x2 && x16), x17, x18, x19, x20⟩)) := by kernel_rfl
theorem L_mage_15_eq (k : Nat) (m : T201) (m_0 : List Int) (m_1 : List Int) (e_r : T86) : L_mage_15 (k + 1) (((), (), ()), (m, m_0, m_1, e_r, ())) =
  let x0 := (bif (m.2.1.1 == 3) then true else (bif (m.2.1.1 == 4) then true else (m.2.1.1 == 5)))
  let x1 := (bif (m.2.1.1 == 3) then true else (bif (m.2.1.1 == 4) then true else true))
  let x2 := (bif x0 then x1 else x1)
  let x3 := (L_mage_17 k (((), (), ()), m, m_0, m_1, e_r, ()))
  (bif (bif x0 then (!true) else (!false)) then ⟨x2, false, (0 : Int), (m, (), (), m_1, ()), ()⟩ else ⟨(x2 && x3.ok), x3.pan, x3.ret, x3.out, x3.pv⟩) := by kernel_rfl
theorem L_mage_17_eq (k : Nat) (m : T201) (m_0 : List Int) (m_1 : List Int) (e_r : T86) : L_mage_17 (k + 1) (((), (), ()), (m, m_0, m_1, e_r, ())) =
  let x0 := (L_mage_21 k (((), (), ()), (m.1, ((5 : Int), true, m.2.1.2.2), (), ()), m_0, m_1, e_r, ()))
  let x1 := (L_mage_21 k (((), (), ()), (m.1, (m.2.1.1, true, m.2.1.2.2), (), ()), m_0, m_1, e_r, ()))
  let x2 := (L_mage_22 k (((), (), ()), m, m_0, m_1, e_r, ()))
  (bif (bif (!m.2.1.2.1) then decide (e_r.2.2.1 ≥ m.1.2.2.1) else false) then (bif (m.2.1.1 == 3) then ⟨((bif (!m.2.1.2.1) then true else true) && x0.ok), x0.pan, x0.ret, x0.out, x0.pv⟩ else ⟨((bif (!m.2.1.2.1) then true else true) && x1.ok), x1.pan, x1.ret, x1.out, x1.pv⟩) else ⟨((bif (!m.2.1.2.1) then true else true) && x2.ok), x2.pan, x2.ret, x2.out, x2.pv⟩) := by kernel_rfl
theorem L_mage_21_eq (k : Nat) (m : T201) (m_0 : List Int) (m_1 : List Int) (e_r : T86) : L_mage_21 (k + 1) (((), (), ()), (m, m_0, m_1, e_r, ())) =
  let x0 := (F_mend ((), (8 : Int), (4 : Int), ()) (m, m_0, (m_1 ++ [(3 : Int)]), ()))
  (bif decide (e_r.2.1 ≥ m.2.1.2.2.2.2.1) then ⟨((Nat.ble ((m_1.length + ([(3 : Int)]).length) * 8) 140737488355328) && x0.ok), false, (0 : Int), x0.out, ()⟩ else ⟨(Nat.ble ((m_1.length + ([(3 : Int)]).length) * 8) 140737488355328), false, (0 : Int), (m, (), (), (m_1 ++ [(3 : Int)]), ()), ()⟩) := by kernel_rfl
theorem L_mage_22_eq (k : Nat) (m : T201) (m_0 : List Int) (m_1 : List Int) (e_r : T86) : L_mage_22 (k + 1) (((), (), ()), (m, m_0, m_1, e_r, ())) =
  let x0 := (F_mend ((), (8 : Int), (4 : Int), ()) (m, m_0, m_1, ()))
  (bif decide (e_r.2.1 ≥ m.2.1.2.2.2.2.1) then ⟨x0.ok, false, (0 : Int), x0.out, ()⟩ else ⟨true, false, (0 : Int), (m, (), (), m_1, ()), ()⟩) := by kernel_rfl
noncomputable def tbl49 : List (Ent TT) := ⟨167, g_mage, F_mage⟩ :: tbl48
theorem tbl49_ok : TblOK prog globs tbl49 := tbl_cons (by kernel_rfl) F_mage_ok tbl48_ok
end Go.Proofs.YtlflclfhldghbaaGreatDoor.Fs
end
section
set_option maxRecDepth 100000
namespace Go.Proofs.YtlflclfhldghbaaGreatDoor.Fs
open Go Go.Proofs.YtlflclfhldghbaaGreatDoor.Ls
noncomputable def C_mpaid : Cx TT := cxB tbl49 Go.Proofs.Tryz.f168.ntmps [(15, s_mpaid_15), (17, s_mpaid_17)] [] [22, 37, 69, 77] [] [15, 17]
noncomputable def k_mpaid (a : g_mpaid.args.ty) (h : tysO TT g_mpaid.hp) : Nat := 10
noncomputable def F_mpaid : g_mpaid.args.ty → tysO TT g_mpaid.hp → Res TT g_mpaid := fun a h => bodyG C_mpaid g_mpaid Go.Proofs.Tryz.f168 [] (k_mpaid a h) a h
theorem F_mpaid_ok : FOK prog globs 168 g_mpaid F_mpaid :=
  bodyG_sound (cx := C_mpaid) mix (cxB_ok tbl49_ok _ _ _ _ _ _) (f := 168) (fn := Go.Proofs.Tryz.f168) (by kernel_rfl) (by kernel_rfl) (by kernel_rfl) (by kernel_rfl) _
noncomputable def L_mpaid_15 (k : Nat) (v : s_mpaid_15.ty TT) : Res TT g_mpaid := loopG C_mpaid g_mpaid Go.Proofs.Tryz.f168 [] k (todoG Go.Proofs.Tryz.f168 15) (SS.st s_mpaid_15 0 v)
noncomputable def L_mpaid_17 (k : Nat) (v : s_mpaid_17.ty TT) : Res TT g_mpaid := loopG C_mpaid g_mpaid Go.Proofs.Tryz.f168 [] k (todoG Go.Proofs.Tryz.f168 17) (SS.st s_mpaid_17 0 v)
theorem F_mpaid_eq (e : T86) (m : T201) (m_0 : List Int) (m_1 : List Int) : F_mpaid ((), e, ()) (m, m_0, m_1, ()) =
  let x0 := m.2.1.2.2.2.2.2.2.2.2.1
  let x1 := m.2.1.2.2.2.2.2.2.2.2.2
  let x2 := (F_mback ((), ()) ((m.1, (m.2.1.1, m.2.1.2.1, m.2.1.2.2.1, m.2.1.2.2.2.1, m.2.1.2.2.2.2.1, m.2.1.2.2.2.2.2.1, m.2.1.2.2.2.2.2.2.1, m.2.1.2.2.2.2.2.2.2.1, x0, (IntKind.i64.wrap (x1.1 + 1)), x1.2), (), ()), m_0, m_1, ()))
  let x3 := (L_mpaid_15 (k_mpaid ((), e, ()) (m, m_0, m_1, ())) (((), (), ()), (x2.out : ((Int × Int × Int × Int × Int × Int × Int × Int × Int × Int × Int × Int × Int × Int × Int × Int × Int × Unit × Unit) × (Int × Bool × Int × Int × Int × Int × Int × Int × Int × Int × Int × Int × Int × Int × Int × Unit) × Unit × Unit) × Unit × Unit × Unit).1, m_0, (m_1 ++ [(5 : Int)]), e, ()))
  let x4 := (L_mpaid_15 (k_mpaid ((), e, ()) (m, m_0, m_1, ())) (((), (), ()), (m.1, (m.2.1.1, m.2.1.2.1, m.2.1.2.2.1, m.2.1.2.2.2.1, m.2.1.2.2.2.2.1, m.2.1.2.2.2.2.2.1, m.2.1.2.2.2.2.2.2.1, m.2.1.2.2.2.2.2.2.2.1, (IntKind.i64.wrap (x0 + e.2.2.2.1)), x1), (), ()), m_0, m_1, e, ()))
  let x5 := (L_mpaid_15 (k_mpaid ((), e, ()) (m, m_0, m_1, ())) (((), (), ()), m, m_0, m_1, e, ()))
  (bif decide (e.2.2.2.1 < 1) then ⟨true, false, (4 : Int), (m, (), (), m_1, ()), ()⟩ else (bif decide (e.2.2.1 < 0) then ⟨true, false, (2 : Int), (m, (), (), m_1, ()), ()⟩ else (bif (bif (m.2.1.1 == 8) then true else (m.2.1.1 == 9)) then ⟨(bif (m.2.1.1 == 8) then true else true), false, (130 : Int), (m, (), (), m_1, ()), ()⟩ else (bif (m.2.1.1 == 4) then (bif decide (e.2.2.2.1 ≥ (IntKind.i64.wrap (m.2.1.2.2.2.2.2.2.2.1 - x0))) then ⟨((((bif (m.2.1.1 == 8) then true else true) && x2.ok) && (Nat.ble ((m_1.length + ([(5 : Int)]).length) * 8) 140737488355328)) && x3.ok), x3.pan, x3.ret, x3.out, x3.pv⟩ else ⟨((bif (m.2.1.1 == 8) then true else true) && x4.ok), x4.pan, x4.ret, x4.out, x4.pv⟩) else ⟨((bif (m.2.1.1 == 8) then true else true) && x5.ok), x5.pan, x5.ret, x5.out, x5.pv⟩)))) := by kernel_rfl
theorem L_mpaid_15_eq (k : Nat) (m : T201) (m_0 : List Int) (m_1 : List Int) (e_r : T86) : L_mpaid_15 (k + 1) (((), (), ()), (m, m_0, m_1, e_r, ())) =
  (bif decide (e_r.2.2.1 > 0) then ⟨true, false, (0 : Int), (m, (), (), m_1, ()), ()⟩ else (L_mpaid_17 k (((), (), ()), m, m_0, m_1, e_r, ()))) := by kernel_rfl
theorem L_mpaid_17_eq (k : Nat) (m : T201) (m_0 : List Int) (m_1 : List Int) (e_r : T86) : L_mpaid_17 (k + 1) (((), (), ()), (m, m_0, m_1, e_r, ())) =
  let x0 := (bif (m.2.1.1 == 3) then true else (bif (m.2.1.1 == 4) then true else (m.2.1.1 == 5)))
  let x1 := (bif (m.2.1.1 == 3) then true else (bif (m.2.1.1 == 4) then true else true))
  let x2 := (bif x0 then x1 else x1)
  let x3 := m.2.1.2.2.2.2.2.2.2.2.2
  let x4 := x3.2
  let x5 := x4.2
  let x6 := (F_mend ((), (6 : Int), (6 : Int), ()) ((m.1, (m.2.1.1, m.2.1.2.1, m.2.1.2.2.1, m.2.1.2.2.2.1, m.2.1.2.2.2.2.1, m.2.1.2.2.2.2.2.1, m.2.1.2.2.2.2.2.2.1, m.2.1.2.2.2.2.2.2.2.1, m.2.1.2.2.2.2.2.2.2.2.1, x3.1, x4.1, (IntKind.i64.wrap (x5.1 + 1)), x5.2), (), ()), m_0, m_1, ()))
  (bif (bif x0 then true else false) then ⟨(x2 && x6.ok), false, (0 : Int), x6.out, ()⟩ else (bif (m.2.1.1 == 2) then ⟨x2, false, (0 : Int), ((m.1, ((1 : Int), m.2.1.2), (), ()), (), (), m_1, ()), ()⟩ else ⟨x2, false, (0 : Int), (m, (), (), m_1, ()), ()⟩)) := by kernel_rfl
noncomputable def tbl50 : List (Ent TT) := ⟨168, g_mpaid, F_mpaid⟩ :: tbl49
theorem tbl50_ok : TblOK prog globs tbl50 := tbl_cons (by kernel_rfl) F_mpaid_ok tbl49_ok
end Go.Proofs.YtlflclfhldghbaaGreatDoor.Fs
end
section
set_option maxRecDepth 100000
namespace Go.Proofs.YtlflclfhldghbaaGreatDoor.Fs
open Go Go.Proofs.YtlflclfhldghbaaGreatDoor.Ls
noncomputable def C_mreturned : Cx TT := cxB tbl50 Go.Proofs.Tryz.f169.ntmps [] [] [] [] []
noncomputable def k_mreturned (a : g_mreturned.args.ty) (h : tysO TT g_mreturned.hp) : Nat := 0
noncomputable def F_mreturned : g_mreturned.args.ty → tysO TT g_mreturned.hp → Res TT g_mreturned := fun a h => bodyG C_mreturned g_mreturned Go.Proofs.Tryz.f169 [] (k_mreturned a h) a h
theorem F_mreturned_ok : FOK prog globs 169 g_mreturned F_mreturned :=
  bodyG_sound (cx := C_mreturned) mix (cxB_ok tbl50_ok _ _ _ _ _ _) (f := 169) (fn := Go.Proofs.Tryz.f169) (by kernel_rfl) (by kernel_rfl) (by kernel_rfl) (by kernel_rfl) _
theorem F_mreturned_eq (e : T86) (m : T201) (m_0 : List Int) (m_1 : List Int) : F_mreturned ((), e, ()) (m, m_0, m_1, ()) =
  let x0 := m.1.2.2.2.2.2.2.2.2.2.1
  let x1 := m.1.2.2.2.2.2.2.2.2.2.2
  let x2 := x1.1
  let x3 := x1.2
  let x4 := x3.1
  let x5 := x3.2
  let x6 := x5.1
  let x7 := x5.2
  let x8 := x7.1
  let x9 := x7.2
  let x10 := x9.1
  let x11 := x9.2
  let x12 := x11.1
  let x13 := x11.2.1
  let x14 := m.2.1.2.2.2.2.2.2.2.2.1
  let x15 := (IntKind.i64.wrap (x14 - e.2.2.2.1))
  let x16 := m.2.1.2.2.2.2.2.2.2.2.2
  let x17 := x16.1
  let x18 := x16.2
  let x19 := x18.1
  let x20 := x18.2
  let x21 := x20.1
  let x22 := x20.2
  let x23 := x22.1
  let x24 := x22.2
  let x25 := x24.1
  let x26 := x24.2.1
  (bif decide (e.2.2.2.1 < 1) then ⟨true, false, (4 : Int), (m, (), (), m_1, ()), ()⟩ else (bif (bif (m.2.1.1 == 8) then true else (m.2.1.1 == 9)) then ⟨(bif (m.2.1.1 == 8) then true else true), false, (130 : Int), (m, (), (), m_1, ()), ()⟩ else ⟨(bif (m.2.1.1 == 4) then (bif (m.2.1.1 == 8) then true else true) else (bif (m.2.1.1 == 8) then true else true)), false, (0 : Int), ((((bif (m.2.1.1 == 4) then m.1.1 else m.1.1), (bif (m.2.1.1 == 4) then m.1.2.1 else m.1.2.1), (bif (m.2.1.1 == 4) then m.1.2.2.1 else m.1.2.2.1), (bif (m.2.1.1 == 4) then m.1.2.2.2.1 else m.1.2.2.2.1), (bif (m.2.1.1 == 4) then m.1.2.2.2.2.1 else m.1.2.2.2.2.1), (bif (m.2.1.1 == 4) then m.1.2.2.2.2.2.1 else m.1.2.2.2.2.2.1), (bif (m.2.1.1 == 4) then m.1.2.2.2.2.2.2.1 else m.1.2.2.2.2.2.2.1), (bif (m.2.1.1 == 4) then m.1.2.2.2.2.2.2.2.1 else m.1.2.2.2.2.2.2.2.1), (bif (m.2.1.1 == 4) then m.1.2.2.2.2.2.2.2.2.1 else m.1.2.2.2.2.2.2.2.2.1), (bif (m.2.1.1 == 4) then x0 else x0), (bif (m.2.1.1 == 4) then x2 else x2), (bif (m.2.1.1 == 4) then x4 else x4), (bif (m.2.1.1 == 4) then x6 else x6), (bif (m.2.1.1 == 4) then x8 else x8), (bif (m.2.1.1 == 4) then x10 else x10), (bif (m.2.1.1 == 4) then x12 else x12), (bif (m.2.1.1 == 4) then x13 else x13), (), ()), ((bif (m.2.1.1 == 4) then m.2.1.1 else m.2.1.1), (bif (m.2.1.1 == 4) then m.2.1.2.1 else m.2.1.2.1), (bif (m.2.1.1 == 4) then m.2.1.2.2.1 else m.2.1.2.2.1), (bif (m.2.1.1 == 4) then m.2.1.2.2.2.1 else m.2.1.2.2.2.1), (bif (m.2.1.1 == 4) then m.2.1.2.2.2.2.1 else m.2.1.2.2.2.2.1), (bif (m.2.1.1 == 4) then m.2.1.2.2.2.2.2.1 else m.2.1.2.2.2.2.2.1), (bif (m.2.1.1 == 4) then m.2.1.2.2.2.2.2.2.1 else m.2.1.2.2.2.2.2.2.1), (bif (m.2.1.1 == 4) then m.2.1.2.2.2.2.2.2.2.1 else m.2.1.2.2.2.2.2.2.2.1), (bif (m.2.1.1 == 4) then (if (x15 > 0) then x15 else (0 : Int)) else x14), (bif (m.2.1.1 == 4) then x17 else x17), (bif (m.2.1.1 == 4) then x19 else x19), (bif (m.2.1.1 == 4) then x21 else x21), (bif (m.2.1.1 == 4) then x23 else x23), (bif (m.2.1.1 == 4) then x25 else x25), (bif (m.2.1.1 == 4) then x26 else x26), ()), (), ()), (), (), m_1, ()), ()⟩)) := by kernel_rfl
noncomputable def tbl51 : List (Ent TT) := ⟨169, g_mreturned, F_mreturned⟩ :: tbl50
theorem tbl51_ok : TblOK prog globs tbl51 := tbl_cons (by kernel_rfl) F_mreturned_ok tbl50_ok
noncomputable def C_mpromise : Cx TT := cxB tbl51 Go.Proofs.Tryz.f170.ntmps [] [] [] [] []
noncomputable def k_mpromise (a : g_mpromise.args.ty) (h : tysO TT g_mpromise.hp) : Nat := 0
noncomputable def F_mpromise : g_mpromise.args.ty → tysO TT g_mpromise.hp → Res TT g_mpromise := fun a h => bodyG C_mpromise g_mpromise Go.Proofs.Tryz.f170 [] (k_mpromise a h) a h
theorem F_mpromise_ok : FOK prog globs 170 g_mpromise F_mpromise :=
  bodyG_sound (cx := C_mpromise) mix (cxB_ok tbl51_ok _ _ _ _ _ _) (f := 170) (fn := Go.Proofs.Tryz.f170) (by kernel_rfl) (by kernel_rfl) (by kernel_rfl) (by kernel_rfl) _
theorem F_mpromise_eq (e : T86) (m : T201) (m_0 : List Int) (m_1 : List Int) : F_mpromise ((), e, ()) (m, m_0, m_1, ()) =
  let x0 := (!(bif decide (e.2.1 ≥ 1) then decide (e.2.1 ≤ 3652059) else false))
  let x1 := (bif x0 then (bif decide (e.2.1 ≥ 1) then true else true) else (bif decide (e.2.2.1 < 1) then (bif decide (e.2.1 ≥ 1) then true else true) else (bif decide (e.2.1 ≥ 1) then true else true)))
  let x2 := (x1 && (bif (m.2.1.1 == 8) then true else true))
  let x3 := (bif (m.2.1.1 == 3) then true else (bif (m.2.1.1 == 4) then true else (m.2.1.1 == 5)))
  let x4 := (x2 && (bif (m.2.1.1 == 3) then true else (bif (m.2.1.1 == 4) then true else true)))
  let x5 := (bif x3 then x4 else x4)
  (bif (bif x0 then true else (bif decide (e.2.2.1 < 1) then true else decide (e.2.2.1 > m.1.2.2.2.2.2.2.2.2.2.2.1))) then ⟨x1, false, (2 : Int), (m, (), (), m_1, ()), ()⟩ else (bif decide (e.2.2.2.1 < 1) then ⟨x1, false, (4 : Int), (m, (), (), m_1, ()), ()⟩ else (bif (bif (m.2.1.1 == 8) then true else (m.2.1.1 == 9)) then ⟨x2, false, (130 : Int), (m, (), (), m_1, ()), ()⟩ else (bif (bif x3 then (!true) else (!false)) then ⟨x5, false, (131 : Int), (m, (), (), m_1, ()), ()⟩ else (bif (m.2.1.1 == 4) then ⟨x5, false, (132 : Int), (m, (), (), m_1, ()), ()⟩ else (bif decide (m.2.1.2.2.2.2.2.1 ≥ m.1.2.2.2.2.2.2.2.2.2.1) then ⟨x5, false, (133 : Int), (m, (), (), m_1, ()), ()⟩ else ⟨x5, false, (0 : Int), ((m.1, ((4 : Int), m.2.1.2.1, m.2.1.2.2.1, m.2.1.2.2.2.1, (IntKind.i64.wrap (m.2.1.2.2.2.2.1 + e.2.2.1)), (IntKind.i64.wrap (m.2.1.2.2.2.2.2.1 + 1)), (IntKind.i64.wrap (e.2.1 + e.2.2.1)), e.2.2.2.1, (0 : Int), m.2.1.2.2.2.2.2.2.2.2.2), (), ()), (), (), m_1, ()), ()⟩)))))) := by kernel_rfl
noncomputable def tbl52 : List (Ent TT) := ⟨170, g_mpromise, F_mpromise⟩ :: tbl51
theorem tbl52_ok : TblOK prog globs tbl52 := tbl_cons (by kernel_rfl) F_mpromise_ok tbl51_ok
noncomputable def C_mrestructure : Cx TT := cxB tbl52 Go.Proofs.Tryz.f171.ntmps [] [] [] [] []
noncomputable def k_mrestructure (a : g_mrestructure.args.ty) (h : tysO TT g_mrestructure.hp) : Nat := 0
noncomputable def F_mrestructure : g_mrestructure.args.ty → tysO TT g_mrestructure.hp → Res TT g_mrestructure := fun a h => bodyG C_mrestructure g_mrestructure Go.Proofs.Tryz.f171 [] (k_mrestructure a h) a h
theorem F_mrestructure_ok : FOK prog globs 171 g_mrestructure F_mrestructure :=
  bodyG_sound (cx := C_mrestructure) mix (cxB_ok tbl52_ok _ _ _ _ _ _) (f := 171) (fn := Go.Proofs.Tryz.f171) (by kernel_rfl) (by kernel_rfl) (by kernel_rfl) (by kernel_rfl) _
theorem F_mrestructure_eq (_1 : T86) (m : T201) (m_0 : List Int) (m_1 : List Int) : F_mrestructure ((), _1, ()) (m, m_0, m_1, ()) =
  let x0 := (bif (m.2.1.1 == 3) then true else (bif (m.2.1.1 == 4) then true else (m.2.1.1 == 5)))
  let x1 := ((bif (m.2.1.1 == 8) then true else true) && (bif (m.2.1.1 == 3) then true else (bif (m.2.1.1 == 4) then true else true)))
  let x2 := (bif x0 then x1 else x1)
  let x3 := m.2.1.2.2.2.2.2.2.2.2.2
  let x4 := x3.2
  let x5 := x4.2
  let x6 := x5.2
  let x7 := x6.1
  let x8 := (F_mend ((), (7 : Int), (7 : Int), ()) ((m.1, (m.2.1.1, m.2.1.2.1, m.2.1.2.2.1, m.2.1.2.2.2.1, m.2.1.2.2.2.2.1, m.2.1.2.2.2.2.2.1, m.2.1.2.2.2.2.2.2.1, m.2.1.2.2.2.2.2.2.2.1, m.2.1.2.2.2.2.2.2.2.2.1, x3.1, x4.1, x5.1, (IntKind.i64.wrap (x7 + 1)), x6.2), (), ()), m_0, m_1, ()))
  (bif (bif (m.2.1.1 == 8) then true else (m.2.1.1 == 9)) then ⟨(bif (m.2.1.1 == 8) then true else true), false, (130 : Int), (m, (), (), m_1, ()), ()⟩ else (bif (bif x0 then (!true) else (!false)) then ⟨x2, false, (131 : Int), (m, (), (), m_1, ()), ()⟩ else (bif decide (x7 ≥ m.1.2.2.2.2.2.2.2.2.2.2.2.1) then ⟨x2, false, (133 : Int), (m, (), (), m_1, ()), ()⟩ else ⟨(x2 && x8.ok), false, (0 : Int), x8.out, ()⟩))) := by kernel_rfl
noncomputable def tbl53 : List (Ent TT) := ⟨171, g_mrestructure, F_mrestructure⟩ :: tbl52
theorem tbl53_ok : TblOK prog globs tbl53 := tbl_cons (by kernel_rfl) F_mrestructure_ok tbl52_ok
noncomputable def C_mfee : Cx TT := cxB tbl53 Go.Proofs.Tryz.f172.ntmps [] [] [] [] []
noncomputable def k_mfee (a : g_mfee.args.ty) (h : tysO TT g_mfee.hp) : Nat := 0
noncomputable def F_mfee : g_mfee.args.ty → tysO TT g_mfee.hp → Res TT g_mfee := fun a h => bodyG C_mfee g_mfee Go.Proofs.Tryz.f172 [] (k_mfee a h) a h
theorem F_mfee_ok : FOK prog globs 172 g_mfee F_mfee :=
  bodyG_sound (cx := C_mfee) mix (cxB_ok tbl53_ok _ _ _ _ _ _) (f := 172) (fn := Go.Proofs.Tryz.f172) (by kernel_rfl) (by kernel_rfl) (by kernel_rfl) (by kernel_rfl) _
theorem F_mfee_eq (e : T86) (m : T201) (m_0 : List Int) (m_1 : List Int) : F_mfee ((), e, ()) (m, m_0, m_1, ()) =
  let x0 := (bif (m.2.1.1 == 3) then true else (bif (m.2.1.1 == 4) then true else (m.2.1.1 == 5)))
  let x1 := ((bif (m.2.1.1 == 8) then true else true) && (bif (m.2.1.1 == 3) then true else (bif (m.2.1.1 == 4) then true else true)))
  let x2 := (bif x0 then x1 else x1)
  let x3 := m.2.1.2.2.2.2.2.2.2.2.2
  let x4 := x3.2
  let x5 := x4.2
  let x6 := x5.2
  let x7 := x6.2
  let x8 := x7.1
  let x9 := decide (x8 > (IntKind.i64.wrap (m.1.2.2.2.2.2.2.2.1 - e.2.2.2.1)))
  let x10 := x7.2.1
  let x11 := (bif x9 then x2 else x2)
  (bif decide (e.2.2.2.1 < 1) then ⟨true, false, (4 : Int), (m, (), (), m_1, ()), ()⟩ else (bif (bif (m.2.1.1 == 8) then true else (m.2.1.1 == 9)) then ⟨(bif (m.2.1.1 == 8) then true else true), false, (130 : Int), (m, (), (), m_1, ()), ()⟩ else (bif (bif x0 then (!true) else (!false)) then ⟨x2, false, (131 : Int), (m, (), (), m_1, ()), ()⟩ else (bif (m.2.1.1 == 4) then ⟨x2, false, (132 : Int), (m, (), (), m_1, ()), ()⟩ else (bif (bif x9 then true else decide (x10 > (IntKind.i64.wrap (m.1.2.2.2.2.2.2.2.2.1 - e.2.2.2.1)))) then ⟨x11, false, (133 : Int), (m, (), (), m_1, ()), ()⟩ else ⟨x11, false, (0 : Int), ((m.1, (m.2.1.1, m.2.1.2.1, m.2.1.2.2.1, m.2.1.2.2.2.1, m.2.1.2.2.2.2.1, m.2.1.2.2.2.2.2.1, m.2.1.2.2.2.2.2.2.1, m.2.1.2.2.2.2.2.2.2.1, m.2.1.2.2.2.2.2.2.2.2.1, x3.1, x4.1, x5.1, x6.1, (IntKind.i64.wrap (x8 + e.2.2.2.1)), (IntKind.i64.wrap (x10 + e.2.2.2.1)), ()), (), ()), (), (), m_1, ()), ()⟩))))) := by kernel_rfl
noncomputable def tbl54 : List (Ent TT) := ⟨172, g_mfee, F_mfee⟩ :: tbl53
theorem tbl54_ok : TblOK prog globs tbl54 := tbl_cons (by kernel_rfl) F_mfee_ok tbl53_ok
noncomputable def C_mclose : Cx TT := cxB tbl54 Go.Proofs.Tryz.f173.ntmps [] [] [11] [] []
noncomputable def k_mclose (a : g_mclose.args.ty) (h : tysO TT g_mclose.hp) : Nat := 0
noncomputable def F_mclose : g_mclose.args.ty → tysO TT g_mclose.hp → Res TT g_mclose := fun a h => bodyG C_mclose g_mclose Go.Proofs.Tryz.f173 [] (k_mclose a h) a h
theorem F_mclose_ok : FOK prog globs 173 g_mclose F_mclose :=
  bodyG_sound (cx := C_mclose) mix (cxB_ok tbl54_ok _ _ _ _ _ _) (f := 173) (fn := Go.Proofs.Tryz.f173) (by kernel_rfl) (by kernel_rfl) (by kernel_rfl) (by kernel_rfl) _
theorem F_mclose_eq (_1 : T86) (m : T201) (m_0 : List Int) (m_1 : List Int) : F_mclose ((), _1, ()) (m, m_0, m_1, ()) =
  let x0 := (bif (m.2.1.1 == 3) then true else (bif (m.2.1.1 == 4) then true else (m.2.1.1 == 5)))
  let x1 := ((bif (m.2.1.1 == 8) then true else true) && (bif (m.2.1.1 == 3) then true else (bif (m.2.1.1 == 4) then true else true)))
  let x2 := (bif x0 then x1 else x1)
  let x3 := m.2.1.2.2.2.2.2.2.2.2.2
  let x4 := x3.2
  let x5 := x4.2
  let x6 := (F_mend ((), (6 : Int), (6 : Int), ()) ((m.1, (m.2.1.1, m.2.1.2.1, m.2.1.2.2.1, m.2.1.2.2.2.1, m.2.1.2.2.2.2.1, m.2.1.2.2.2.2.2.1, m.2.1.2.2.2.2.2.2.1, m.2.1.2.2.2.2.2.2.2.1, m.2.1.2.2.2.2.2.2.2.2.1, x3.1, x4.1, (IntKind.i64.wrap (x5.1 + 1)), x5.2), (), ()), m_0, m_1, ()))
  let x7 := (x6.out : ((Int × Int × Int × Int × Int × Int × Int × Int × Int × Int × Int × Int × Int × Int × Int × Int × Int × Unit × Unit) × (Int × Bool × Int × Int × Int × Int × Int × Int × Int × Int × Int × Int × Int × Int × Int × Unit) × Unit × Unit) × Unit × Unit × (List Int) × Unit)
  let x8 : List Int := x7.2.2.2.1
  let x9 := x7.1
  (bif (bif (m.2.1.1 == 8) then true else (m.2.1.1 == 9)) then ⟨(bif (m.2.1.1 == 8) then true else true), false, (130 : Int), (m, (), (), m_1, ()), ()⟩ else (bif (bif x0 then true else false) then ⟨((x2 && x6.ok) && (Nat.ble ((x8.length + ([(8 : Int)]).length) * 8) 140737488355328)), false, (0 : Int), ((x9.1, ((9 : Int), x9.2.1.2), (), ()), (), (), (x8 ++ [(8 : Int)]), ()), ()⟩ else ⟨(x2 && (Nat.ble ((m_1.length + ([(8 : Int)]).length) * 8) 140737488355328)), false, (0 : Int), ((m.1, ((9 : Int), m.2.1.2), (), ()), (), (), (m_1 ++ [(8 : Int)]), ()), ()⟩)) := by kernel_rfl
noncomputable def tbl55 : List (Ent TT) := ⟨173, g_mclose, F_mclose⟩ :: tbl54
theorem tbl55_ok : TblOK prog globs tbl55 := tbl_cons (by kernel_rfl) F_mclose_ok tbl54_ok
end Go.Proofs.YtlflclfhldghbaaGreatDoor.Fs
end
section
set_option maxRecDepth 100000
namespace Go.Proofs.YtlflclfhldghbaaGreatDoor.Fs
open Go Go.Proofs.YtlflclfhldghbaaGreatDoor.Ls
noncomputable def C_step : Cx TT := cxB tbl55 Go.Proofs.Tryz.f82.ntmps [] [] [1000007, 1000008] [] []
noncomputable def k_step (a : g_step.args.ty) (h : tysO TT g_step.hp) : Nat := 0
noncomputable def F_step : g_step.args.ty → tysO TT g_step.hp → Res TT g_step := fun a h => bodyG C_step g_step Go.Proofs.Tryz.f82 [] (k_step a h) a h
theorem F_step_ok : FOK prog globs 82 g_step F_step :=
  bodyG_sound (cx := C_step) mix (cxB_ok tbl55_ok _ _ _ _ _ _) (f := 82) (fn := Go.Proofs.Tryz.f82) (by kernel_rfl) (by kernel_rfl) (by kernel_rfl) (by kernel_rfl) _
theorem F_step_eq (p : T23) (c : T32) (e : T86) (p_0 : List Int) : F_step (p, c, e, ()) (p_0, ()) =
  let x0 := (bif decide (e.1 < 1) then (F_check (p, ()) (p_0, ())).ok else (F_check (p, ()) (p_0, ())).ok)
  let x1 := (F_mage ((), e, ()) ((p, c, (), ()), p_0, ([] : List Int), ()))
  let x2 := (x1.ret : Int)
  let x3 := (x0 && true)
  let x4 := (x3 && x1.ok)
  let x5 := (x1.out : ((Int × Int × Int × Int × Int × Int × Int × Int × Int × Int × Int × Int × Int × Int × Int × Int × Int × Unit × Unit) × (Int × Bool × Int × Int × Int × Int × Int × Int × Int × Int × Int × Int × Int × Int × Int × Unit) × Unit × Unit) × Unit × Unit × (List Int) × Unit)
  let x6 := (F_mpaid ((), e, ()) ((p, c, (), ()), p_0, ([] : List Int), ()))
  let x7 := (x6.ret : Int)
  let x8 := (x3 && x6.ok)
  let x9 := (x6.out : ((Int × Int × Int × Int × Int × Int × Int × Int × Int × Int × Int × Int × Int × Int × Int × Int × Int × Unit × Unit) × (Int × Bool × Int × Int × Int × Int × Int × Int × Int × Int × Int × Int × Int × Int × Int × Unit) × Unit × Unit) × Unit × Unit × (List Int) × Unit)
  let x10 := (F_mreturned ((), e, ()) ((p, c, (), ()), p_0, ([] : List Int), ()))
  let x11 := (x10.ret : Int)
  let x12 := (x3 && x10.ok)
  let x13 := (x10.out : ((Int × Int × Int × Int × Int × Int × Int × Int × Int × Int × Int × Int × Int × Int × Int × Int × Int × Unit × Unit) × (Int × Bool × Int × Int × Int × Int × Int × Int × Int × Int × Int × Int × Int × Int × Int × Unit) × Unit × Unit) × Unit × Unit × (List Int) × Unit)
  let x14 := (F_mpromise ((), e, ()) ((p, c, (), ()), p_0, ([] : List Int), ()))
  let x15 := (x14.ret : Int)
  let x16 := (x3 && x14.ok)
  let x17 := (x14.out : ((Int × Int × Int × Int × Int × Int × Int × Int × Int × Int × Int × Int × Int × Int × Int × Int × Int × Unit × Unit) × (Int × Bool × Int × Int × Int × Int × Int × Int × Int × Int × Int × Int × Int × Int × Int × Unit) × Unit × Unit) × Unit × Unit × (List Int) × Unit)
  let x18 := (F_mrestructure ((), e, ()) ((p, c, (), ()), p_0, ([] : List Int), ()))
  let x19 := (x18.ret : Int)
  let x20 := (x3 && x18.ok)
  let x21 := (x18.out : ((Int × Int × Int × Int × Int × Int × Int × Int × Int × Int × Int × Int × Int × Int × Int × Int × Int × Unit × Unit) × (Int × Bool × Int × Int × Int × Int × Int × Int × Int × Int × Int × Int × Int × Int × Int × Unit) × Unit × Unit) × Unit × Unit × (List Int) × Unit)
  let x22 := (F_mfee ((), e, ()) ((p, c, (), ()), p_0, ([] : List Int), ()))
  let x23 := (x22.ret : Int)
  let x24 := (x3 && x22.ok)
  let x25 := (x22.out : ((Int × Int × Int × Int × Int × Int × Int × Int × Int × Int × Int × Int × Int × Int × Int × Int × Int × Unit × Unit) × (Int × Bool × Int × Int × Int × Int × Int × Int × Int × Int × Int × Int × Int × Int × Int × Unit) × Unit × Unit) × Unit × Unit × (List Int) × Unit)
  let x26 := (F_mclose ((), e, ()) ((p, c, (), ()), p_0, ([] : List Int), ()))
  let x27 := (x26.ret : Int)
  let x28 := (x3 && x26.ok)
  let x29 := (x26.out : ((Int × Int × Int × Int × Int × Int × Int × Int × Int × Int × Int × Int × Int × Int × Int × Int × Int × Unit × Unit) × (Int × Bool × Int × Int × Int × Int × Int × Int × Int × Int × Int × Int × Int × Int × Int × Unit) × Unit × Unit) × Unit × Unit × (List Int) × Unit)
  (bif (((F_check (p, ()) (p_0, ())).ret : Int × Int × Unit).1 != 0) then ⟨(F_check (p, ()) (p_0, ())).ok, false, (c, (), ((F_check (p, ()) (p_0, ())).ret : Int × Int × Unit).1, ()), ((), ([] : List Int), ()), ()⟩ else (bif (bif decide (e.1 < 1) then true else decide (e.1 > 7)) then ⟨x0, false, (c, (), (2 : Int), ()), ((), ([] : List Int), ()), ()⟩ else (bif (e.1 == 1) then (bif (x2 != 0) then ⟨x4, false, (c, (), x2, ()), ((), ([] : List Int), ()), ()⟩ else ⟨x4, false, (x5.1.2.1, (), (0 : Int), ()), x5.2.2, ()⟩) else (bif (e.1 == 2) then (bif (x7 != 0) then ⟨x8, false, (c, (), x7, ()), ((), ([] : List Int), ()), ()⟩ else ⟨x8, false, (x9.1.2.1, (), (0 : Int), ()), x9.2.2, ()⟩) else (bif (e.1 == 3) then (bif (x11 != 0) then ⟨x12, false, (c, (), x11, ()), ((), ([] : List Int), ()), ()⟩ else ⟨x12, false, (x13.1.2.1, (), (0 : Int), ()), x13.2.2, ()⟩) else (bif (e.1 == 4) then (bif (x15 != 0) then ⟨x16, false, (c, (), x15, ()), ((), ([] : List Int), ()), ()⟩ else ⟨x16, false, (x17.1.2.1, (), (0 : Int), ()), x17.2.2, ()⟩) else (bif (e.1 == 5) then (bif (x19 != 0) then ⟨x20, false, (c, (), x19, ()), ((), ([] : List Int), ()), ()⟩ else ⟨x20, false, (x21.1.2.1, (), (0 : Int), ()), x21.2.2, ()⟩) else (bif (e.1 == 6) then (bif (x23 != 0) then ⟨x24, false, (c, (), x23, ()), ((), ([] : List Int), ()), ()⟩ else ⟨x24, false, (x25.1.2.1, (), (0 : Int), ()), x25.2.2, ()⟩) else (bif (x27 != 0) then ⟨x28, false, (c, (), x27, ()), ((), ([] : List Int), ()), ()⟩ else ⟨x28, false, (x29.1.2.1, (), (0 : Int), ()), x29.2.2, ()⟩))))))))) := by kernel_rfl
noncomputable def tbl56 : List (Ent TT) := ⟨82, g_step, F_step⟩ :: tbl55
theorem tbl56_ok : TblOK prog globs tbl56 := tbl_cons (by kernel_rfl) F_step_ok tbl55_ok
end Go.Proofs.YtlflclfhldghbaaGreatDoor.Fs
end
section
set_option maxRecDepth 100000
namespace Go.Proofs.YtlflclfhldghbaaGreatDoor.Fs
open Go Go.Proofs.YtlflclfhldghbaaGreatDoor.Ls
noncomputable def C_lbal : Cx TT := cxB tbl56 Go.Proofs.Tryz.f135.ntmps [] [] [] [] []
noncomputable def k_lbal (a : g_lbal.args.ty) (h : tysO TT g_lbal.hp) : Nat := 0
noncomputable def F_lbal : g_lbal.args.ty → tysO TT g_lbal.hp → Res TT g_lbal := fun a h => bodyG C_lbal g_lbal Go.Proofs.Tryz.f135 [] (k_lbal a h) a h
theorem F_lbal_ok : FOK prog globs 135 g_lbal F_lbal :=
  bodyG_sound (cx := C_lbal) mix (cxB_ok tbl56_ok _ _ _ _ _ _) (f := 135) (fn := Go.Proofs.Tryz.f135) (by kernel_rfl) (by kernel_rfl) (by kernel_rfl) (by kernel_rfl) _
theorem F_lbal_eq (b : T30) (account : Int) : F_lbal (b, account, ()) () =
  let x0 := [(1 : Int), (1 : Int), (1 : Int), (1 : Int), (-1 : Int), (-1 : Int), (-1 : Int), (-1 : Int), (-1 : Int), (1 : Int), (-1 : Int), (1 : Int)]
  let x1 := b.1.2.2.2.2.2.2.2.2.2.2
  let x2 := [b.1.1, b.1.2.1, b.1.2.2.1, b.1.2.2.2.1, b.1.2.2.2.2.1, b.1.2.2.2.2.2.1, b.1.2.2.2.2.2.2.1, b.1.2.2.2.2.2.2.2.1, b.1.2.2.2.2.2.2.2.2.1, b.1.2.2.2.2.2.2.2.2.2.1, x1.1, x1.2.1]
  let x3 := (((((bif decide (account < 0) then true else true) && (decide (0 ≤ account) && decide (account < ((12 : Nat) : Int)))) && (Nat.blt account.toNat x2.length)) && (decide (0 ≤ account) && decide (account < ((12 : Nat) : Int)))) && (Nat.blt account.toNat x0.length))
  let x4 := (x2.getD account.toNat (0 : Int))
  (bif (bif decide (account < 0) then true else decide (account ≥ 12)) then ⟨(bif decide (account < 0) then true else true), false, ((0 : Int), (80 : Int), ()), (), ()⟩ else (bif decide ((x0.getD account.toNat (0 : Int)) > 0) then ⟨x3, false, (x4, (0 : Int), ()), (), ()⟩ else (bif (x4 == (-9223372036854775808)) then ⟨x3, false, ((0 : Int), (3 : Int), ()), (), ()⟩ else ⟨x3, false, ((IntKind.i64.wrap (0 - x4)), (0 : Int), ()), (), ()⟩))) := by kernel_rfl
noncomputable def tbl57 : List (Ent TT) := ⟨135, g_lbal, F_lbal⟩ :: tbl56
theorem tbl57_ok : TblOK prog globs tbl57 := tbl_cons (by kernel_rfl) F_lbal_ok tbl56_ok
noncomputable def C_indF : Cx TT := cxB tbl57 Go.Proofs.Tryz.f138.ntmps [(3, s_indF_3)] [] [] [] []
noncomputable def k_indF (a : g_indF.args.ty) (h : tysO TT g_indF.hp) : Nat := h.1.length + 2
noncomputable def F_indF : g_indF.args.ty → tysO TT g_indF.hp → Res TT g_indF := fun a h => bodyG C_indF g_indF Go.Proofs.Tryz.f138 [] (k_indF a h) a h
theorem F_indF_ok : FOK prog globs 138 g_indF F_indF :=
  bodyG_sound (cx := C_indF) mix (cxB_ok tbl57_ok _ _ _ _ _ _) (f := 138) (fn := Go.Proofs.Tryz.f138) (by kernel_rfl) (by kernel_rfl) (by kernel_rfl) (by kernel_rfl) _
noncomputable def L_indF_3 (k : Nat) (v : s_indF_3.ty TT) : Res TT g_indF := loopG C_indF g_indF Go.Proofs.Tryz.f138 [] k (todoF Go.Proofs.Tryz.f138 3) (SS.st s_indF_3 0 v)
theorem F_indF_eq (s : List T93) : F_indF ((), (), ()) (s, ()) =
  (L_indF_3 (k_indF ((), (), ()) (s, ())) (((), (), ((s.length : Nat) : Int), (0 : Int), ()), s, ())) := by kernel_rfl
theorem L_indF_3_eq (k : Nat) (f : Unit) (t7 : Int) (t8 : Int) (s : List T93) : L_indF_3 (k + 1) (((), f, t7, t8, ()), (s, ())) =
  let x0 := (((decide (0 ≤ t8) && decide (t8 < ((s.length : Nat) : Int))) && (Nat.blt t8.toNat s.length)) && true)
  let x1 := (L_indF_3 k (((), (), t7, (IntKind.i64.wrap (t8 + 1)), ()), s, ()))
  (bif decide (t8 < t7) then (bif ((((s.getD t8.toNat ((0 : Int), (0 : Int), (0 : Int), ())).2).2).1 == 0) then ⟨x0, false, t8, ((), ()), ()⟩ else ⟨(x0 && x1.ok), x1.pan, x1.ret, x1.out, x1.pv⟩) else ⟨true, false, (-1 : Int), ((), ()), ()⟩) := by kernel_rfl
noncomputable def tbl58 : List (Ent TT) := ⟨138, g_indF, F_indF⟩ :: tbl57
theorem tbl58_ok : TblOK prog globs tbl58 := tbl_cons (by kernel_rfl) F_indF_ok tbl57_ok
noncomputable def C_delF : Cx TT := cxB tbl58 Go.Proofs.Tryz.f77.ntmps [(6, s_delF_6)] [] [] [] []
noncomputable def k_delF (a : g_delF.args.ty) (h : tysO TT g_delF.hp) : Nat := h.1.length + 2
noncomputable def F_delF : g_delF.args.ty → tysO TT g_delF.hp → Res TT g_delF := fun a h => bodyG C_delF g_delF Go.Proofs.Tryz.f77 [] (k_delF a h) a h
theorem F_delF_ok : FOK prog globs 77 g_delF F_delF :=
  bodyG_sound (cx := C_delF) mix (cxB_ok tbl58_ok _ _ _ _ _ _) (f := 77) (fn := Go.Proofs.Tryz.f77) (by kernel_rfl) (by kernel_rfl) (by kernel_rfl) (by kernel_rfl) _
noncomputable def L_delF_6 (k : Nat) (v : s_delF_6.ty TT) : Res TT g_delF := loopG C_delF g_delF Go.Proofs.Tryz.f77 [] k (todoF Go.Proofs.Tryz.f77 6) (SS.st s_delF_6 0 v)
theorem F_delF_eq (s : List T93) : F_delF ((), (), ()) (s, ()) =
  let x0 := (L_delF_6 (k_delF ((), (), ()) (s, ())) (((), (), ((F_indF ((), (), ()) (s, ())).ret : Int), (IntKind.i64.wrap (((F_indF ((), (), ()) (s, ())).ret : Int) + 1)), ()), s, ()))
  (bif (((F_indF ((), (), ()) (s, ())).ret : Int) == (-1)) then ⟨(F_indF ((), (), ()) (s, ())).ok, false, (0, s.length, s.length), (s, ()), ()⟩ else ⟨((F_indF ((), (), ()) (s, ())).ok && x0.ok), x0.pan, x0.ret, x0.out, x0.pv⟩) := by kernel_rfl
theorem L_delF_6_eq (k : Nat) (del : Unit) (i : Int) (j : Int) (s : List T93) : L_delF_6 (k + 1) (((), del, i, j, ()), (s, ())) =
  let x0 := (!((((s.getD j.toNat ((0 : Int), (0 : Int), (0 : Int), ())).2).2).1 == 0))
  let x1 := (((decide (0 ≤ j) && decide (j < ((s.length : Nat) : Int))) && (Nat.blt j.toNat s.length)) && true)
  let x2 := (L_delF_6 k (((), (), (bif x0 then (IntKind.i64.wrap (i + 1)) else i), (IntKind.i64.wrap (j + 1)), ()), (bif x0 then (s.set i.toNat (s.getD j.toNat ((0 : Int), (0 : Int), (0 : Int), ()))) else s), ()))
  let x3 := ((s.take i.toNat) ++ ((List.replicate (((s.length : Nat) : Int).toNat - i.toNat) ((0 : Int), (0 : Int), (0 : Int), ())) ++ (s.drop (i.toNat + (((s.length : Nat) : Int).toNat - i.toNat)))))
  let x4 := x3.length
  (bif decide (j < ((s.length : Nat) : Int)) then ⟨((bif x0 then ((x1 && (decide (0 ≤ i) && decide (i < ((s.length : Nat) : Int)))) && (Nat.blt i.toNat s.length)) else x1) && x2.ok), x2.pan, x2.ret, x2.out, x2.pv⟩ else ⟨((decide (0 ≤ i) && (decide (i ≤ ((s.length : Nat) : Int)) && decide (((s.length : Nat) : Int) ≤ ((s.length : Nat) : Int)))) && (decide (0 ≤ ((0 : Nat) : Int)) && (decide (((0 : Nat) : Int) ≤ i) && decide (i ≤ ((x4 : Nat) : Int))))), false, (((0 : Nat) : Int).toNat, (i.toNat - ((0 : Nat) : Int).toNat), (x4 - ((0 : Nat) : Int).toNat)), (x3, ()), ()⟩) := by kernel_rfl
noncomputable def tbl59 : List (Ent TT) := ⟨77, g_delF, F_delF⟩ :: tbl58
theorem tbl59_ok : TblOK prog globs tbl59 := tbl_cons (by kernel_rfl) F_delF_ok tbl58_ok
noncomputable def C_balance : Cx TT := cxB tbl59 Go.Proofs.Tryz.f70.ntmps [] [] [] [] []
noncomputable def k_balance (a : g_balance.args.ty) (h : tysO TT g_balance.hp) : Nat := 0
noncomputable def F_balance : g_balance.args.ty → tysO TT g_balance.hp → Res TT g_balance := fun a h => bodyG C_balance g_balance Go.Proofs.Tryz.f70 [] (k_balance a h) a h
theorem F_balance_ok : FOK prog globs 70 g_balance F_balance :=
  bodyG_sound (cx := C_balance) mix (cxB_ok tbl59_ok _ _ _ _ _ _) (f := 70) (fn := Go.Proofs.Tryz.f70) (by kernel_rfl) (by kernel_rfl) (by kernel_rfl) (by kernel_rfl) _
theorem F_balance_eq (l : T36) (account : Int) (l_0 : List T123) : F_balance (l, account, ()) (l_0, ()) =
  let x0 := ((F_lbal (l.2.2.2.1, account, ()) ()).ret : Int × Int × Unit)
  let x1 := x0.2
  let x2 := ((F_lbal (l.2.2.2.1, account, ()) ()).ok && true)
  (bif (x1.1 != 0) then ⟨x2, true, (0 : Int), ((), ()), x1⟩ else ⟨x2, false, x0.1, ((), ()), ((0 : Int), ())⟩) := by kernel_rfl
noncomputable def tbl60 : List (Ent TT) := ⟨70, g_balance, F_balance⟩ :: tbl59
theorem tbl60_ok : TblOK prog globs tbl60 := tbl_cons (by kernel_rfl) F_balance_ok tbl59_ok
noncomputable def C_owed : Cx TT := cxB tbl60 Go.Proofs.Tryz.f67.ntmps [] [] [] [] []
noncomputable def k_owed (a : g_owed.args.ty) (h : tysO TT g_owed.hp) : Nat := 0
noncomputable def F_owed : g_owed.args.ty → tysO TT g_owed.hp → Res TT g_owed := fun a h => bodyG C_owed g_owed Go.Proofs.Tryz.f67 [] (k_owed a h) a h
theorem F_owed_ok : FOK prog globs 67 g_owed F_owed :=
  bodyG_sound (cx := C_owed) mix (cxB_ok tbl60_ok _ _ _ _ _ _) (f := 67) (fn := Go.Proofs.Tryz.f67) (by kernel_rfl) (by kernel_rfl) (by kernel_rfl) (by kernel_rfl) _
theorem F_owed_eq (l : T36) (l_0 : List T123) : F_owed (l, ()) (l_0, ()) =
  let x0 := (⟨false, false, ((0 : Int), (0 : Int), (0 : Int), ()), ((), ()), ((0 : Int), ())⟩ : Res TT g_owed)
  (bif (F_balance (l, (3 : Int), ()) (l_0, ())).pan then x0 else (bif (F_balance (l, (2 : Int), ()) (l_0, ())).pan then x0 else (bif (F_balance (l, (1 : Int), ()) (l_0, ())).pan then x0 else ⟨(((F_balance (l, (3 : Int), ()) (l_0, ())).ok && (F_balance (l, (2 : Int), ()) (l_0, ())).ok) && (F_balance (l, (1 : Int), ()) (l_0, ())).ok), false, (((F_balance (l, (3 : Int), ()) (l_0, ())).ret : Int), ((F_balance (l, (2 : Int), ()) (l_0, ())).ret : Int), ((F_balance (l, (1 : Int), ()) (l_0, ())).ret : Int), ()), ((), ()), ((0 : Int), ())⟩))) := by kernel_rfl
noncomputable def tbl61 : List (Ent TT) := ⟨67, g_owed, F_owed⟩ :: tbl60
theorem tbl61_ok : TblOK prog globs tbl61 := tbl_cons (by kernel_rfl) F_owed_ok tbl60_ok
noncomputable def C_position : Cx TT := cxB tbl61 Go.Proofs.Tryz.f60.ntmps [] [] [] [] []
noncomputable def k_position (a : g_position.args.ty) (h : tysO TT g_position.hp) : Nat := 0
noncomputable def F_position : g_position.args.ty → tysO TT g_position.hp → Res TT g_position := fun a h => bodyG C_position g_position Go.Proofs.Tryz.f60 [] (k_position a h) a h
theorem F_position_ok : FOK prog globs 60 g_position F_position :=
  bodyG_sound (cx := C_position) mix (cxB_ok tbl61_ok _ _ _ _ _ _) (f := 60) (fn := Go.Proofs.Tryz.f60) (by kernel_rfl) (by kernel_rfl) (by kernel_rfl) (by kernel_rfl) _
theorem F_position_eq (l : T36) (l_0 : List T123) : F_position (l, ()) (l_0, ()) =
  (bif (F_owed (l, ()) (l_0, ())).pan then ⟨(F_owed (l, ()) (l_0, ())).ok, true, ((0 : Int), (0 : Int), ()), ((), ()), ((F_owed (l, ()) (l_0, ())).pv : Int × Unit)⟩ else ⟨(F_owed (l, ()) (l_0, ())).ok, false, (l.2.2.2.2.2.2.2.1, (IntKind.i64.wrap ((((F_owed (l, ()) (l_0, ())).ret : Int × Int × Int × Unit).2).1 + ((((F_owed (l, ()) (l_0, ())).ret : Int × Int × Int × Unit).2).2).1)), ()), ((), ()), ((0 : Int), ())⟩) := by kernel_rfl
noncomputable def tbl62 : List (Ent TT) := ⟨60, g_position, F_position⟩ :: tbl61
theorem tbl62_ok : TblOK prog globs tbl62 := tbl_cons (by kernel_rfl) F_position_ok tbl61_ok
noncomputable def C_over : Cx TT := cxB tbl62 Go.Proofs.Tryz.f32.ntmps [] [] [] [] []
noncomputable def k_over (a : g_over.args.ty) (h : tysO TT g_over.hp) : Nat := 0
noncomputable def F_over : g_over.args.ty → tysO TT g_over.hp → Res TT g_over := fun a h => bodyG C_over g_over Go.Proofs.Tryz.f32 [] (k_over a h) a h
theorem F_over_ok : FOK prog globs 32 g_over F_over :=
  bodyG_sound (cx := C_over) mix (cxB_ok tbl62_ok _ _ _ _ _ _) (f := 32) (fn := Go.Proofs.Tryz.f32) (by kernel_rfl) (by kernel_rfl) (by kernel_rfl) (by kernel_rfl) _
theorem F_over_eq (l : T36) (l_0 : List T123) : F_over (l, ()) (l_0, ()) =
  ⟨(bif (l.2.2.2.2.1.1 == 9) then true else true), false, (bif (l.2.2.2.2.1.1 == 9) then true else (l.2.2.2.2.1.1 == 8)), ((), ()), ()⟩ := by kernel_rfl
noncomputable def tbl63 : List (Ent TT) := ⟨32, g_over, F_over⟩ :: tbl62
theorem tbl63_ok : TblOK prog globs tbl63 := tbl_cons (by kernel_rfl) F_over_ok tbl62_ok
noncomputable def C_move : Cx TT := cxB tbl63 Go.Proofs.Tryz.f30.ntmps [] [] [] [] []
noncomputable def k_move (a : g_move.args.ty) (h : tysO TT g_move.hp) : Nat := 0
noncomputable def F_move : g_move.args.ty → tysO TT g_move.hp → Res TT g_move := fun a h => bodyG C_move g_move Go.Proofs.Tryz.f30 [] (k_move a h) a h
theorem F_move_ok : FOK prog globs 30 g_move F_move :=
  bodyG_sound (cx := C_move) mix (cxB_ok tbl63_ok _ _ _ _ _ _) (f := 30) (fn := Go.Proofs.Tryz.f30) (by kernel_rfl) (by kernel_rfl) (by kernel_rfl) (by kernel_rfl) _
theorem F_move_eq (d : T82) (d_0 : List Int) (d_1 : List T123) (d_2 : List T53) (entries : List T93) : F_move ((), (), ()) (d, d_0, d_1, d_2, entries, ()) =
  let x0 := (F_post (d.2.1.2.2.2.1, (), ()) ((((((F_delF ((), (), ()) (entries, ())).out : (List (Int × Int × Int × Unit)) × Unit).1).drop (((F_delF ((), (), ()) (entries, ())).ret : Nat × Nat × Nat).1)).take ((((F_delF ((), (), ()) (entries, ())).ret : Nat × Nat × Nat).2).1)), ()))
  let x1 := (x0.ret : ((Int × Int × Int × Int × Int × Int × Int × Int × Int × Int × Int × Int × Unit) × Unit) × Int × Unit)
  let x2 := x1.2
  let x3 := x1.1.1
  let x4 := x3.2
  let x5 := x4.2
  let x6 := x5.2
  let x7 := x6.2
  let x8 := x7.2
  let x9 := x8.2
  let x10 := x9.2
  let x11 := x10.2
  let x12 := x11.2
  let x13 := x12.2
  let x14 := [x3.1, x4.1, x5.1, x6.1, x7.1, x8.1, x9.1, x10.1, x11.1, x12.1, x13.1, x13.2.1]
  let x15 := x14.length
  let x16 := ((((F_delF ((), (), ()) (entries, ())).ok && x0.ok) && (Nat.beq (([(0 : Int), (0 : Int), (0 : Int), (0 : Int), (0 : Int), (0 : Int), (0 : Int), (0 : Int), (0 : Int), (0 : Int), (0 : Int), (0 : Int)]).length) x15)) && true)
  (bif (x2.1 != 0) then ⟨x16, true, (), ((((0 : Int), (0 : Int), (0 : Int), (0 : Int), (0 : Int), (0 : Int), (0 : Int), (0 : Int), (0 : Int), (0 : Int), (0 : Int), (0 : Int), (0 : Int), (0 : Int), (0 : Int), (0 : Int), (0 : Int), (), ()), ((0 : Int), ((0 : Int), (0 : Int), (0 : Int), (0 : Int), (0 : Int), (0 : Int), ()), (), (((0 : Int), (0 : Int), (0 : Int), (0 : Int), (0 : Int), (0 : Int), (0 : Int), (0 : Int), (0 : Int), (0 : Int), (0 : Int), (0 : Int), ()), ()), ((0 : Int), false, (0 : Int), (0 : Int), (0 : Int), (0 : Int), (0 : Int), (0 : Int), (0 : Int), (0 : Int), (0 : Int), (0 : Int), (0 : Int), (0 : Int), (0 : Int), ()), (0 : Int), (0 : Int), (0 : Int), ((0 : Int), (0 : Int), (0 : Int), (0 : Int), (0 : Int), ()), false, (0 : Int), (0 : Int), ()), ((0 : Int), (0 : Int), (0 : Int), (0 : Int), (0 : Int), ()), (), ()), (), (), (), (), ()), x2⟩ else ⟨(x16 && (Nat.beq x15 (12 / 1))), false, (), ((d.1, (d.2.1.1, d.2.1.2.1, (), (((x14.getD 0 (0 : Int)), (x14.getD 1 (0 : Int)), (x14.getD 2 (0 : Int)), (x14.getD 3 (0 : Int)), (x14.getD 4 (0 : Int)), (x14.getD 5 (0 : Int)), (x14.getD 6 (0 : Int)), (x14.getD 7 (0 : Int)), (x14.getD 8 (0 : Int)), (x14.getD 9 (0 : Int)), (x14.getD 10 (0 : Int)), (x14.getD 11 (0 : Int)), ()), ()), d.2.1.2.2.2.2), d.2.2), (), (), (), (), ()), ((0 : Int), ())⟩) := by kernel_rfl
noncomputable def tbl64 : List (Ent TT) := ⟨30, g_move, F_move⟩ :: tbl63
theorem tbl64_ok : TblOK prog globs tbl64 := tbl_cons (by kernel_rfl) F_move_ok tbl63_ok
noncomputable def C_note : Cx TT := cxB tbl64 Go.Proofs.Tryz.f42.ntmps [] [] [] [] []
noncomputable def k_note (a : g_note.args.ty) (h : tysO TT g_note.hp) : Nat := 0
noncomputable def F_note : g_note.args.ty → tysO TT g_note.hp → Res TT g_note := fun a h => bodyG C_note g_note Go.Proofs.Tryz.f42 [] (k_note a h) a h
theorem F_note_ok : FOK prog globs 42 g_note F_note :=
  bodyG_sound (cx := C_note) mix (cxB_ok tbl64_ok _ _ _ _ _ _) (f := 42) (fn := Go.Proofs.Tryz.f42) (by kernel_rfl) (by kernel_rfl) (by kernel_rfl) (by kernel_rfl) _
theorem F_note_eq (kind : Int) (amount : Int) (d : T82) (d_0 : List Int) (d_1 : List T123) (d_2 : List T53) : F_note ((), kind, amount, ()) (d, d_0, d_1, d_2, ()) =
  let x0 := [((0 : Int), d.2.1.1, kind, d.2.1.2.2.2.2.2.1, amount, false, ())]
  ⟨(Nat.ble ((d_2.length + x0.length) * 48) 140737488355328), false, (), (d, (), (), (), (d_2 ++ x0), ()), ()⟩ := by kernel_rfl
noncomputable def tbl65 : List (Ent TT) := ⟨42, g_note, F_note⟩ :: tbl64
theorem tbl65_ok : TblOK prog globs tbl65 := tbl_cons (by kernel_rfl) F_note_ok tbl64_ok
noncomputable def C_forget : Cx TT := cxB tbl65 Go.Proofs.Tryz.f43.ntmps [] [] [] [] []
noncomputable def k_forget (a : g_forget.args.ty) (h : tysO TT g_forget.hp) : Nat := 0
noncomputable def F_forget : g_forget.args.ty → tysO TT g_forget.hp → Res TT g_forget := fun a h => bodyG C_forget g_forget Go.Proofs.Tryz.f43 [] (k_forget a h) a h
theorem F_forget_ok : FOK prog globs 43 g_forget F_forget :=
  bodyG_sound (cx := C_forget) mix (cxB_ok tbl65_ok _ _ _ _ _ _) (f := 43) (fn := Go.Proofs.Tryz.f43) (by kernel_rfl) (by kernel_rfl) (by kernel_rfl) (by kernel_rfl) _
theorem F_forget_eq (d : T82) (d_0 : List Int) (d_1 : List T123) (d_2 : List T53) : F_forget ((), ()) (d, d_0, d_1, d_2, ()) =
  ⟨true, false, (), ((d.1, (d.2.1.1, d.2.1.2.1, (), d.2.1.2.2.2.1, d.2.1.2.2.2.2.1, d.2.1.2.2.2.2.2.1, d.2.1.2.2.2.2.2.2.1, d.2.1.2.2.2.2.2.2.2.1, ((0 : Int), (0 : Int), (0 : Int), (0 : Int), (0 : Int), ()), false, d.2.1.2.2.2.2.2.2.2.2.2.2), d.2.2), (), (), (), ()), ()⟩ := by kernel_rfl
noncomputable def tbl66 : List (Ent TT) := ⟨43, g_forget, F_forget⟩ :: tbl65
theorem tbl66_ok : TblOK prog globs tbl66 := tbl_cons (by kernel_rfl) F_forget_ok tbl65_ok
noncomputable def C_pdays : Cx TT := cxB tbl66 Go.Proofs.Tryz.f34.ntmps [] [] [] [] []
noncomputable def k_pdays (a : g_pdays.args.ty) (h : tysO TT g_pdays.hp) : Nat := 0
noncomputable def F_pdays : g_pdays.args.ty → tysO TT g_pdays.hp → Res TT g_pdays := fun a h => bodyG C_pdays g_pdays Go.Proofs.Tryz.f34 [] (k_pdays a h) a h
theorem F_pdays_ok : FOK prog globs 34 g_pdays F_pdays :=
  bodyG_sound (cx := C_pdays) mix (cxB_ok tbl66_ok _ _ _ _ _ _) (f := 34) (fn := Go.Proofs.Tryz.f34) (by kernel_rfl) (by kernel_rfl) (by kernel_rfl) (by kernel_rfl) _
theorem F_pdays_eq (d : T82) (d_0 : List Int) (d_1 : List T123) (d_2 : List T53) : F_pdays ((), ()) (d, d_0, d_1, d_2, ()) =
  let x0 := (F_adays ((), ((F_position (d.2.1, ()) (d_1, ())).ret : Int × Int × Unit), d.2.1.2.2.2.2.2.1, ()) (d_1, ()))
  (bif (F_position (d.2.1, ()) (d_1, ())).pan then ⟨false, false, (0 : Int), ((), (), (), (), ()), ((0 : Int), ())⟩ else ⟨((F_position (d.2.1, ()) (d_1, ())).ok && x0.ok), false, x0.ret, ((), (), (), (), ()), ((0 : Int), ())⟩) := by kernel_rfl
noncomputable def tbl67 : List (Ent TT) := ⟨34, g_pdays, F_pdays⟩ :: tbl66
theorem tbl67_ok : TblOK prog globs tbl67 := tbl_cons (by kernel_rfl) F_pdays_ok tbl66_ok
noncomputable def C_pastDue : Cx TT := cxB tbl67 Go.Proofs.Tryz.f144.ntmps [] [] [] [] []
noncomputable def k_pastDue (a : g_pastDue.args.ty) (h : tysO TT g_pastDue.hp) : Nat := 0
noncomputable def F_pastDue : g_pastDue.args.ty → tysO TT g_pastDue.hp → Res TT g_pastDue := fun a h => bodyG C_pastDue g_pastDue Go.Proofs.Tryz.f144 [] (k_pastDue a h) a h
theorem F_pastDue_ok : FOK prog globs 144 g_pastDue F_pastDue :=
  bodyG_sound (cx := C_pastDue) mix (cxB_ok tbl67_ok _ _ _ _ _ _) (f := 144) (fn := Go.Proofs.Tryz.f144) (by kernel_rfl) (by kernel_rfl) (by kernel_rfl) (by kernel_rfl) _
theorem F_pastDue_eq (d : T82) (d_0 : List Int) (d_1 : List T123) (d_2 : List T53) : F_pastDue ((), ()) (d, d_0, d_1, d_2, ()) =
  let x0 := (F_apast ((), ((F_position (d.2.1, ()) (d_1, ())).ret : Int × Int × Unit), d.2.1.2.2.2.2.2.1, ()) (d_1, ()))
  (bif (F_position (d.2.1, ()) (d_1, ())).pan then ⟨false, false, (0 : Int), ((), (), (), (), ()), ((0 : Int), ())⟩ else ⟨((F_position (d.2.1, ()) (d_1, ())).ok && x0.ok), false, x0.ret, ((), (), (), (), ()), ((0 : Int), ())⟩) := by kernel_rfl
noncomputable def tbl68 : List (Ent TT) := ⟨144, g_pastDue, F_pastDue⟩ :: tbl67
theorem tbl68_ok : TblOK prog globs tbl68 := tbl_cons (by kernel_rfl) F_pastDue_ok tbl67_ok
end Go.Proofs.YtlflclfhldghbaaGreatDoor.Fs
end
section
set_option maxRecDepth 20000
namespace Go.Proofs.YtlflclfhldghbaaGreatDoor.Fs
open Go Go.Proofs.YtlflclfhldghbaaGreatDoor.Ls P
theorem bal1 (l : T36) (x : List T123) : F_balance (l, (1 : Int), ()) (x, ()) = ⟨true, false, l.2.2.2.1.1.2.1, ((), ()), (0, ())⟩ := by
  rw [F_balance_eq, F_lbal_eq]; rfl
theorem bal2 (l : T36) (x : List T123) : F_balance (l, (2 : Int), ()) (x, ()) = ⟨true, false, l.2.2.2.1.1.2.2.1, ((), ()), (0, ())⟩ := by
  rw [F_balance_eq, F_lbal_eq]; rfl
theorem bal3 (l : T36) (x : List T123) : F_balance (l, (3 : Int), ()) (x, ()) = ⟨true, false, l.2.2.2.1.1.2.2.2.1, ((), ()), (0, ())⟩ := by
  rw [F_balance_eq, F_lbal_eq]; rfl
theorem owed (l : T36) (x : List T123) : F_owed (l, ()) (x, ()) = ⟨true, false, (l.2.2.2.1.1.2.2.2.1, l.2.2.2.1.1.2.2.1, l.2.2.2.1.1.2.1, ()), ((), ()), (0, ())⟩ := by
  rw [F_owed_eq, bal1, bal2, bal3]; rfl
theorem position (l : T36) (x : List T123) : F_position (l, ()) (x, ()) = ⟨true, false, (l.2.2.2.2.2.2.2.1, IntKind.i64.wrap (l.2.2.2.1.1.2.2.1 + l.2.2.2.1.1.2.1), ()), ((), ()), (0, ())⟩ := by
  rw [F_position_eq, owed]; rfl
theorem over_ok (l : T36) (x : List T123) : F_over (l, ()) (x, ()) = ⟨true, false, (l.2.2.2.2.1.1 == 9) || (l.2.2.2.2.1.1 == 8), ((), ()), ()⟩ := by
  rw [F_over_eq]; cases (l.2.2.2.2.1.1 == 9) <;> rfl
end Go.Proofs.YtlflclfhldghbaaGreatDoor.Fs
end
section
set_option maxRecDepth 20000
namespace Go.Proofs.YtlflclfhldghbaaGreatDoor.Fs
open Go Go.Proofs.YtlflclfhldghbaaGreatDoor.Ls P
theorem dT {i n : Nat} (h : i < n) : decide ((i : Int) < ((n : Nat) : Int)) = true := by simp; omega
theorem dF {i n : Nat} (h : ¬ i < n) : decide ((i : Int) < ((n : Nat) : Int)) = false := by simp; omega
theorem wN {i : Nat} (h : i ≤ 10000000) : IntKind.i64.wrap ((i : Int) + 1) = ((i + 1 : Nat) : Int) := w64 (by omega) (by omega)
theorem inL {α : Type} {i : Nat} {l : List α} (h : i < l.length) : ((decide ((0 : Int) ≤ (i : Int)) && decide ((i : Int) < ((l.length : Nat) : Int))) && (Nat.blt (i : Int).toNat l.length)) = true := inb h
theorem condB {T : TypeId → VS} {g : Sig} {b : Bool} {x y : Res T g} (hx : x.ok = true ∧ x.pan = false) (hy : y.ok = true ∧ y.pan = false) : (bif b then x else y).ok = true ∧ (bif b then x else y).pan = false := by
  cases b; exact hy; exact hx
theorem L_msum {list : List Int} (hs : list.length ≤ 1000000) : ∀ (n k i : Nat) (hi lo : Int), n < k → i + n = list.length →
    (L_msum_4 k ((hi, lo, (), ((list.length : Nat) : Int), (i : Int), ()), (list, ()))).ok = true ∧ (L_msum_4 k ((hi, lo, (), ((list.length : Nat) : Int), (i : Int), ()), (list, ()))).pan = false
  | n, 0, i, hi, lo, hk, _ => by omega
  | n, k + 1, i, hi, lo, hk, hn => by
    rw [L_msum_4_eq]
    have hb : Nat.ble ((0 : Int).toNat) ((instOfNatNat 1).ofNat) = true := rfl
    by_cases c : i < list.length
    · obtain ⟨n', rfl⟩ : ∃ n', n = n' + 1 := ⟨n - 1, by omega⟩
      simp only [inL c, hb, csame, Bool.true_and]
      simp only [dT c, cond_true, wN (show i ≤ 10000000 by omega)]
      exact L_msum hs n' k (i + 1) _ _ (by omega) (by omega)
    · simp only [dF c, cond_false, csame]
      exact condB ⟨rfl, rfl⟩ ⟨rfl, rfl⟩
theorem msum {list : List Int} (hs : list.length ≤ 1000000) : (F_msum ((), ()) (list, ())).ok = true ∧ (F_msum ((), ()) (list, ())).pan = false := by
  rw [F_msum_eq]; exact L_msum hs list.length (list.length + 2) 0 0 0 (by omega) (by omega)
theorem L_front {plan : List T123} (hs : plan.length ≤ 1000000) : ∀ (n k i : Nat) (left : Int), n < k → i + n = plan.length →
    ∃ r : Int, L_front_6 k (((), left, ((plan.length : Nat) : Int), (i : Int), ()), (plan, ())) = ⟨true, false, r, ((), ()), ()⟩ ∧ 0 ≤ r ∧ (r < plan.length ∨ r = 0)
  | n, 0, i, left, hk, _ => by omega
  | n, k + 1, i, left, hk, hn => by
    rw [L_front_6_eq]
    by_cases c : i < plan.length
    · obtain ⟨n', rfl⟩ : ∃ n', n = n' + 1 := ⟨n - 1, by omega⟩
      have hc2 : ((((decide ((0 : Int) ≤ (i : Int)) && decide ((i : Int) < ((plan.length : Nat) : Int))) && (Nat.blt (i : Int).toNat plan.length)) && (decide ((0 : Int) ≤ (i : Int)) && decide ((i : Int) < ((plan.length : Nat) : Int)))) && (Nat.blt (i : Int).toNat plan.length)) = true := by rw [inL c, dT c]; simp; exact c
      simp only [hc2, csame]
      simp only [dT c, cond_true, wN (show i ≤ 10000000 by omega), Bool.true_and]
      cases (bif (i : Int) == IntKind.i64.wrap (((plan.length : Nat) : Int) - 1) then true else decide (IntKind.i64.wrap ((plan.getD (i : Int).toNat ((0 : Int), (0 : Int), (0 : Int), false, ())).2.1 + (plan.getD (i : Int).toNat ((0 : Int), (0 : Int), (0 : Int), false, ())).2.2.1) > left)) with
      | true => exact ⟨(i : Int), rfl, by omega, .inl (by omega)⟩
      | false =>
        obtain ⟨r, e, h1, h2⟩ := L_front hs n' k (i + 1) (IntKind.i64.wrap (left - IntKind.i64.wrap ((plan.getD (i : Int).toNat ((0 : Int), (0 : Int), (0 : Int), false, ())).2.1 + (plan.getD (i : Int).toNat ((0 : Int), (0 : Int), (0 : Int), false, ())).2.2.1))) (by omega) (by omega)
        refine ⟨r, ?_, h1, h2⟩
        simp only [cond_false]; rw [e]
    · simp only [dF c, cond_false]
      exact ⟨0, rfl, by omega, .inr rfl⟩
theorem front {plan : List T123} (hs : plan.length ≤ 1000000) (pos : T115) : ∃ r : Int, F_front ((), pos, ()) (plan, ()) = ⟨true, false, r, ((), ()), ()⟩ ∧ 0 ≤ r ∧ (r < plan.length ∨ r = 0 ∨ r = plan.length) := by
  rw [F_front_eq]
  cases decide (pos.2.1 ≤ 0) with
  | true => exact ⟨_, rfl, by omega, .inr (.inr rfl)⟩
  | false =>
    obtain ⟨r, e, h1, h2⟩ := L_front hs plan.length (plan.length + 2) 0 (if (0 > pos.1) then (0 : Int) else pos.1) (by omega) (by omega)
    exact ⟨r, e, h1, h2.imp (fun h => h) .inl⟩
end Go.Proofs.YtlflclfhldghbaaGreatDoor.Fs
end
section
set_option maxRecDepth 20000
namespace Go.Proofs.YtlflclfhldghbaaGreatDoor.Fs
open Go Go.Proofs.YtlflclfhldghbaaGreatDoor.Ls P
def nl (f : Nat → Int) : List (Int × Int × Unit) := [wd (f 0), wd (f 1), wd (f 2), wd (f 3), wd (f 4), wd (f 5), wd (f 6), wd (f 7), wd (f 8), wd (f 9), wd (f 10), wd (f 11)]
theorem nl_get {f : Nat → Int} {d : Nat} (h : d < 12) (x : Int × Int × Unit) : (nl f).getD d x = wd (f d) := by
  match d, h with
  | 0, _ => rfl | 1, _ => rfl | 2, _ => rfl | 3, _ => rfl | 4, _ => rfl | 5, _ => rfl
  | 6, _ => rfl | 7, _ => rfl | 8, _ => rfl | 9, _ => rfl | 10, _ => rfl | 11, _ => rfl
theorem nl_set {f : Nat → Int} {d : Nat} (h : d < 12) (v : Int) : (nl f).set d (wd v) = nl (fun i => if i = d then v else f i) := by
  match d, h with
  | 0, _ => rfl | 1, _ => rfl | 2, _ => rfl | 3, _ => rfl | 4, _ => rfl | 5, _ => rfl
  | 6, _ => rfl | 7, _ => rfl | 8, _ => rfl | 9, _ => rfl | 10, _ => rfl | 11, _ => rfl
theorem nl_len (f : Nat → Int) : (nl f).length = 12 := rfl
theorem nl_congr {f g : Nat → Int} (h : ∀ i, i < 12 → f i = g i) : nl f = nl g := by
  unfold nl
  rw [h 0 (by omega), h 1 (by omega), h 2 (by omega), h 3 (by omega), h 4 (by omega), h 5 (by omega), h 6 (by omega), h 7 (by omega), h 8 (by omega), h 9 (by omega), h 10 (by omega), h 11 (by omega)]
theorem badCode (e : EntT) :
    (bif (bif decide (e.1 < 0) then true else (bif decide (e.1 ≥ 12) then true else (bif decide (e.2.1 < 0) then true else (bif decide (e.2.1 ≥ 12) then true else (e.1 == e.2.1))))) then (80 : Int) else (bif decide (e.2.2.1 < 1) then (4 : Int) else (0 : Int))) = badE e := by
  unfold badE
  by_cases h1 : e.1 < 0
  · rw [if_pos (Or.inl h1), decide_eq_true h1]; rfl
  by_cases h2 : 12 ≤ e.1
  · rw [if_pos (Or.inr (Or.inl h2)), decide_eq_false h1, decide_eq_true (show e.1 ≥ 12 from h2)]; rfl
  by_cases h3 : e.2.1 < 0
  · rw [if_pos (Or.inr (Or.inr (Or.inl h3))), decide_eq_false h1, decide_eq_false (show ¬ e.1 ≥ 12 from h2), decide_eq_true h3]; rfl
  by_cases h4 : 12 ≤ e.2.1
  · rw [if_pos (Or.inr (Or.inr (Or.inr (Or.inl h4)))), decide_eq_false h1, decide_eq_false (show ¬ e.1 ≥ 12 from h2), decide_eq_false h3, decide_eq_true (show e.2.1 ≥ 12 from h4)]; rfl
  rw [decide_eq_false h1, decide_eq_false (show ¬ e.1 ≥ 12 from h2), decide_eq_false h3, decide_eq_false (show ¬ e.2.1 ≥ 12 from h4)]
  by_cases h5 : e.1 = e.2.1
  · rw [if_pos (Or.inr (Or.inr (Or.inr (Or.inr h5)))), show (e.1 == e.2.1) = true from by simpa using h5]; rfl
  rw [if_neg (by rintro (h | h | h | h | h) <;> contradiction), show (e.1 == e.2.1) = false from by simpa using h5]
  by_cases h6 : e.2.2.1 < 1
  · rw [if_pos h6, decide_eq_true h6]; rfl
  · rw [if_neg h6, decide_eq_false h6]; rfl
theorem good_of {e : EntT} (h : badE e = 0) : 0 ≤ e.1 ∧ e.1 < 12 ∧ 0 ≤ e.2.1 ∧ e.2.1 < 12 ∧ e.1 ≠ e.2.1 ∧ 1 ≤ e.2.2.1 := by
  unfold badE at h
  split at h
  · omega
  · split at h <;> omega
def rP (b : BookT) : Except Int (Nat → Int) → Res TT g_post
  | .error e => ⟨true, false, (b, e, ()), ((), ()), ()⟩
  | .ok f => finB b f
theorem wd_new {x : Int} (x1 : -9223372036854775808 ≤ x) (x2 : x ≤ 9223372036854775807) :
    (((IntKind.i64.wrap ((IntKind.i64.wrap (0 + x.fdiv (2 ^ (min ((63 : Int).toNat) 64)))) + (IntKind.i64.wrap (((((0 + (IntKind.u64.wrap x).toNat) + 0) / 18446744073709551616) : Nat) : Int)))), ((((0 + (IntKind.u64.wrap x).toNat + 0) % 18446744073709551616) : Nat) : Int), ()) : Int × Int × Unit) = wd x := by
  have h := wd_plus (v := 0) (x := x) (by omega) (by omega) x1 x2
  have e1 : (wd 0).1 = 0 := rfl
  have e2 : (wd 0).2.1 = 0 := rfl
  have e3 : wd (0 + x) = wd x := by rw [Int.zero_add]
  rw [e1, e2, e3] at h
  exact h
theorem drop1 {α : Type} {s : List α} {i : Nat} (d : α) (h : i < s.length) : s.drop i = s.getD i d :: s.drop (i + 1) := by
  rw [List.drop_eq_getElem_cons h]
  congr 1
  simp [List.getD, List.getElem?_eq_getElem h]
theorem rstep {g : Sig} {o : Bool} {X Y : Res TT g} (ho : o = true) (h : X = Y) : (⟨o && X.ok, X.pan, X.ret, X.out, X.pv⟩ : Res TT g) = Y := by
  subst h; rw [ho]; rfl
set_option maxHeartbeats 1000000 in
theorem L_post (es : List EntT) (b : BookT) (o0 o1 o2 o3 o4 o5 o6 o7 o8 o9 o10 o11 : Int) (hl : es.length ≤ 5000) (hes : ∀ e ∈ es, e.2.2.1 ≤ 9223372036854775807) : ∀ (n k i : Nat) (f : Nat → Int), n ≤ k → i + n = es.length → (∀ j, -(9223372036854775808 * (i + 1)) ≤ f j ∧ f j ≤ 9223372036854775808 * (i + 1)) →
    L_post_9 ((k + 40) + 1) (((), (), (), (), ((es.length : Nat) : Int), (i : Int), ()), (es, netL b, [o0, o1, o2, o3, o4, o5, o6, o7, o8, o9, o10, o11], nl f, ())) = rP b (sumE f (es.drop i))
  | 0, k, i, f, _, hn, hb => by
    have e : es.drop i = [] := List.drop_eq_nil_of_le (by omega)
    have e2 : i = es.length := by omega
    subst e2
    rw [e]
    exact post_end k _ es b _ _ _ _ _ _ _ _ _ _ _ _ f (fun j => by have := hb j; omega)
  | n + 1, k, i, f, hk, hn, hb => by
    obtain ⟨k', rfl⟩ : ∃ k', k = k' + 1 := ⟨k - 1, by omega⟩
    have c : i < es.length := by omega
    refine (L_post_9_eq (k' + 1) ((es.length : Nat) : Int) (i : Int) es (netL b) [o0, o1, o2, o3, o4, o5, o6, o7, o8, o9, o10, o11] (nl f)).trans ?_
    have hm : es.getD i ((0 : Int), (0 : Int), (0 : Int), ()) ∈ es := by
      simp [List.getD, List.getElem?_eq_getElem c]
    rw [drop1 ((0 : Int), (0 : Int), (0 : Int), ()) c]
    have hr := hes _ hm
    have ih := fun f' => L_post es b o0 o1 o2 o3 o4 o5 o6 o7 o8 o9 o10 o11 hl hes n k' (i + 1) f' (by omega) (by omega)
    generalize hE : es.getD i ((0 : Int), (0 : Int), (0 : Int), ()) = e at *
    simp only [Int.toNat_natCast, hE, dT c, cond_true, badCode]
    unfold sumE
    by_cases hbad : badE e = 0
    · obtain ⟨g1, g2, g3, g4, g5, g6⟩ := good_of hbad
      rw [if_neg (by simpa using hbad)]
      have hne : (badE e != 0) = false := by simpa using hbad
      simp only [hne, cond_false]
      obtain ⟨d, hd⟩ : ∃ d : Nat, e.1 = d := ⟨e.1.toNat, by omega⟩
      obtain ⟨c', hc⟩ : ∃ c : Nat, e.2.1 = c := ⟨e.2.1.toNat, by omega⟩
      have hd12 : d < 12 := by omega
      have hc12 : c' < 12 := by omega
      have hB := hb d; have hC := hb c'
      have hlen : (i : Int) ≤ 5000 := by omega
      have p1 := wd_plus (v := f d) (x := e.2.2.1) (by omega) (by omega) (by omega) (by omega)
      have hcd : c' ≠ d := by omega
      have p2 := wd_minus (v := f c') (x := e.2.2.1) (by omega) (by omega) (by omega) (by omega)
      simp only [hd, hc, Int.toNat_natCast, nl_get hd12]
      rw [p1, nl_set hd12, nl_get hc12, if_neg hcd, p2, nl_set hc12]
      have hnl : nl (fun i => if i = c' then f c' - e.2.2.1 else if i = d then f d + e.2.2.1 else f i) = nl (addE f e) := by
        refine nl_congr (fun j hj => ?_)
        unfold addE
        rw [hd, hc]
        by_cases j1 : j = c'
        · subst j1; rw [if_pos rfl, if_neg (by omega), if_pos rfl]; omega
        · rw [if_neg j1, if_neg (show ¬ ((c' : Int) = (j : Int)) by omega)]
          by_cases j2 : j = d
          · subst j2; rw [if_pos rfl, if_pos rfl]; omega
          · rw [if_neg j2, if_neg (by omega)]; omega
      have hi := ih (addE f e) (fun j => by
        have := hb j
        unfold addE
        rw [hd, hc]
        split <;> split <;> omega)
      have hw : IntKind.i64.wrap ((i : Int) + 1) = ((i + 1 : Nat) : Int) := wN (by omega)
      rw [hnl, hw]
      have hk2 : k' + 1 + 40 = k' + 40 + 1 := by omega
      rw [hk2]
      refine rstep ?_ hi
      have q1 : decide ((d : Int) < 0) = false := decide_eq_false (by omega)
      have q2 : decide ((d : Int) ≥ 12) = false := decide_eq_false (by omega)
      have q3 : decide ((c' : Int) < 0) = false := decide_eq_false (by omega)
      have q4 : decide ((c' : Int) ≥ 12) = false := decide_eq_false (by omega)
      have q5 : (decide ((0 : Int) ≤ (d : Int)) && decide ((d : Int) < ((12 : Nat) : Int))) = true := by simp; omega
      have q6 : (decide ((0 : Int) ≤ (c' : Int)) && decide ((c' : Int) < ((12 : Nat) : Int))) = true := by simp; omega
      have q7 : decide ((0 : Int) ≤ (i : Int)) = true := by simp
      have q8 : Nat.blt i es.length = true := Nat.ble_eq_true_of_le c
      have q9 : Nat.blt d 12 = true := Nat.ble_eq_true_of_le hd12
      have q10 : Nat.blt c' 12 = true := Nat.ble_eq_true_of_le hc12
      simp only [q1, q2, q3, q4, q5, q6, q7, q8, nl_len, q9, q10, cond_false, csame, Bool.and_true, Bool.true_and, tn0, nbz]
    · rw [if_pos hbad]
      have hne : (badE e != 0) = true := by simpa using hbad
      have q7 : decide ((0 : Int) ≤ (i : Int)) = true := by simp
      have q8 : Nat.blt i es.length = true := Nat.ble_eq_true_of_le c
      have q9 : (bif decide (e.1 < 0) then true else bif decide (e.1 ≥ 12) then true else bif decide (e.2.1 < 0) then true else bif decide (e.2.1 ≥ 12) then true else true) = true := by
        cases decide (e.1 < 0) <;> cases decide (e.1 ≥ 12) <;> cases decide (e.2.1 < 0) <;> cases decide (e.2.1 ≥ 12) <;> rfl
      simp only [hne, cond_true, q7, q8, q9, csame, Bool.and_true, Bool.true_and]
      rfl
set_option maxHeartbeats 2000000 in
theorem post (es : List EntT) (b : BookT) (hb : allR (net b)) (hl : es.length ≤ 5000) (hes : ∀ e ∈ es, e.2.2.1 ≤ 9223372036854775807) :
    F_post (b, (), ()) (es, ()) = rP b (sumE (net b) es) := by
  rw [F_post_eq]
  unfold allR inR at hb
  unfold net netL at hb
  simp only [gd0, gd1, gd2, gd3, gd4, gd5, gd6, gd7, gd8, gd9, gd10, gd11] at hb
  obtain ⟨h0, h1, h2, h3, h4, h5, h6, h7, h8, h9, h10, h11⟩ := hb
  simp only [w01, w2, w3, w4, w5, w6, w7, w8, w9, w10, w11, w12, gd0, gd1, gd2, gd3, gd4, gd5, gd6, gd7, gd8, gd9, gd10, gd11, st0, st1, st2, st3, st4, st5, st6, st7, st8, st9, st10, st11, tn0, tn1, tn2, tn3, tn4, tn5, tn6, tn7, tn8, tn9, tn10, tn11, tn12, dz0, dz1, dz2, dz3, dz4, dz5, dz6, dz7, dz8, dz9, dz10, dz11, nb0, nb1, nb2, nb3, nb4, nb5, nb6, nb7, nb8, nb9, nb10, nb11, nb12, ln12, nbd, nbe, nbz, csame, Bool.and_true, Bool.true_and]
  rw [wd_new (x := b.1.1) (by omega) (by omega), wd_new (x := b.1.2.1) (by omega) (by omega), wd_new (x := b.1.2.2.1) (by omega) (by omega), wd_new (x := b.1.2.2.2.1) (by omega) (by omega), wd_new (x := b.1.2.2.2.2.1) (by omega) (by omega), wd_new (x := b.1.2.2.2.2.2.1) (by omega) (by omega), wd_new (x := b.1.2.2.2.2.2.2.1) (by omega) (by omega), wd_new (x := b.1.2.2.2.2.2.2.2.1) (by omega) (by omega), wd_new (x := b.1.2.2.2.2.2.2.2.2.1) (by omega) (by omega), wd_new (x := b.1.2.2.2.2.2.2.2.2.2.1) (by omega) (by omega), wd_new (x := b.1.2.2.2.2.2.2.2.2.2.2.1) (by omega) (by omega), wd_new (x := b.1.2.2.2.2.2.2.2.2.2.2.2.1) (by omega) (by omega)]
  refine rstep rfl ?_
  have h := L_post es b 0 0 0 0 0 0 0 0 0 0 0 0 hl hes es.length (es.length + 86) 0 (net b) (by omega) (by omega) (fun j => by
    unfold net netL
    match j with
    | 0 | 1 | 2 | 3 | 4 | 5 | 6 | 7 | 8 | 9 | 10 | 11 => simp; omega
    | j + 12 => simp)
  exact h
end Go.Proofs.YtlflclfhldghbaaGreatDoor.Fs
end
section
set_option maxRecDepth 20000
namespace Go.Proofs.YtlflclfhldghbaaGreatDoor.Fs
open Go Go.Proofs.YtlflclfhldghbaaGreatDoor.Ls P
noncomputable section
def good {g : Sig} (x : Res TT g) : Prop := x.ok = true ∧ x.pan = false
theorem reta {g : Sig} (X : Res TT g) : (⟨X.ok, X.pan, X.ret, X.out, X.pv⟩ : Res TT g) = X := rfl
theorem good_cond {g : Sig} {b : Bool} {x y : Res TT g} (hx : b = true → good x) (hy : b = false → good y) : good (bif b then x else y) := by
  cases b; exact hy rfl; exact hx rfl
theorem good_step {g : Sig} {o : Bool} {X : Res TT g} (ho : o = true) (h : good X) : good (⟨o && X.ok, X.pan, X.ret, X.out, X.pv⟩ : Res TT g) := by
  constructor
  · show (o && X.ok) = true; rw [ho, h.1]; rfl
  · exact h.2
theorem good_mk {g : Sig} {o : Bool} {r out pv} (ho : o = true) : good (⟨o, false, r, out, pv⟩ : Res TT g) := ⟨ho, rfl⟩
theorem ble8 {n : Nat} (h : n ≤ 100000) : Nat.ble (n * 8) 140737488355328 = true := Nat.ble_eq_true_of_le (by omega)
theorem ble48 {n : Nat} (h : n ≤ 100000) : Nat.ble (n * 48) 140737488355328 = true := Nat.ble_eq_true_of_le (by omega)
theorem ble24 {n : Nat} (h : n ≤ 100000) : Nat.ble (n * 24) 140737488355328 = true := Nat.ble_eq_true_of_le (by omega)
theorem L_sound {plan : List RowT} (hs : plan.length ≤ 10000) : ∀ (n k i : Nat) (g : Bool) (last : Int) (am : List Int), 4 * n + 4 ≤ k → i + n = plan.length → am.length ≤ 2 * i →
    good (L_sound_6 (k + 10) ((g, last, (), (), ((plan.length : Nat) : Int), (i : Int), ()), (plan, am, ())))
  | 0, k, i, g, last, am, hk, hn, ha => by
    obtain ⟨k', rfl⟩ : ∃ k', k = k' + 1 := ⟨k - 1, by omega⟩
    rw [show k' + 1 + 10 = k' + 10 + 1 by omega, L_sound_6_eq]
    simp only [dF (show ¬ i < plan.length by omega), cond_false]
    have hm := msum (list := am) (by omega)
    refine good_mk ?_
    cases g
    · rfl
    · exact hm.1
  | n + 1, k, i, g, last, am, hk, hn, ha => by
    obtain ⟨k', rfl⟩ : ∃ k', k = k' + 1 := ⟨k - 1, by omega⟩
    rw [show k' + 1 + 10 = k' + 10 + 1 by omega, L_sound_6_eq]
    have c : i < plan.length := by omega
    simp only [inL c, csame, Bool.true_and]
    simp only [dT c, cond_true, wN (show i ≤ 10000000 by omega)]
    refine good_cond (fun _ => good_mk rfl) (fun _ => good_cond (fun _ => good_mk rfl) (fun _ => good_cond (fun _ => good_mk ?_) (fun _ => good_step ?_ ?_)))
    · exact ble8 (by simp; omega)
    · rw [ble8 (by simp; omega), ble8 (by simp; omega)]; rfl
    · obtain ⟨k2, rfl⟩ : ∃ k2, k' = k2 + 3 := ⟨k' - 3, by omega⟩
      rw [show k2 + 3 + 1 + 1 + 1 + 1 + 1 + 1 + 1 = k2 + 10 by omega]
      exact L_sound hs n k2 (i + 1) g _ _ (by omega) (by omega) (by simp; omega)
theorem good_sound {x : Res TT g_sound} (h : good x) : x = ⟨true, false, x.ret, ((), ()), ()⟩ := by
  rcases x with ⟨a, b, c, d, e⟩
  obtain ⟨rfl, rfl⟩ := h
  rfl
theorem good_apast {x : Res TT g_apast} (h : good x) : x = ⟨true, false, x.ret, ((), ()), ()⟩ := by
  rcases x with ⟨a, b, c, d, e⟩
  obtain ⟨rfl, rfl⟩ := h
  rfl
theorem sound_ex : ∃ f : List RowT → Bool, ∀ plan : List RowT, plan.length ≤ 10000 → F_sound ((), ()) (plan, ()) = ⟨true, false, f plan, ((), ()), ()⟩ := by
  refine ⟨fun plan => (F_sound ((), ()) (plan, ())).ret, fun plan hs => ?_⟩
  have h : good (F_sound ((), ()) (plan, ())) := by
    rw [F_sound_eq]
    refine good_step ?_ ?_
    · have w : IntKind.i64.wrap (2 * ((plan.length : Nat) : Int)) = 2 * ((plan.length : Nat) : Int) := w64 (by omega) (by omega)
      rw [w]
      simp; omega
    · exact L_sound hs plan.length (4 * plan.length + 20) 0 true 0 _ (by omega) (by omega) (by exact Nat.le_refl 0)
  exact good_sound h
def sSound : List RowT → Bool := Classical.choose sound_ex
theorem soundF {plan : List RowT} (hs : plan.length ≤ 10000) : F_sound ((), ()) (plan, ()) = ⟨true, false, sSound plan, ((), ()), ()⟩ := Classical.choose_spec sound_ex plan hs
theorem front_ex : ∃ f : List RowT → PosT → Int, ∀ (plan : List RowT) (pos : PosT), plan.length ≤ 10000 → F_front ((), pos, ()) (plan, ()) = ⟨true, false, f plan pos, ((), ()), ()⟩ ∧ 0 ≤ f plan pos ∧ (f plan pos < plan.length ∨ f plan pos = 0 ∨ f plan pos = plan.length) := by
  refine ⟨fun plan pos => (F_front ((), pos, ()) (plan, ())).ret, fun plan pos hs => ?_⟩
  obtain ⟨r, e, h1, h2⟩ := front (plan := plan) (by omega) pos
  simp only []
  rw [e]
  exact ⟨rfl, h1, h2⟩
def sFront : List RowT → PosT → Int := Classical.choose front_ex
theorem frontF {plan : List RowT} (hs : plan.length ≤ 10000) (pos : PosT) : F_front ((), pos, ()) (plan, ()) = ⟨true, false, sFront plan pos, ((), ()), ()⟩ ∧ 0 ≤ sFront plan pos ∧ (sFront plan pos < plan.length ∨ sFront plan pos = 0 ∨ sFront plan pos = plan.length) := Classical.choose_spec front_ex plan pos hs
def sOldest (plan : List RowT) (pos : PosT) : Int × Bool × Unit :=
  if sSound plan = false ∨ sFront plan pos = plan.length then (0, false, ()) else (sFront plan pos, true, ())
theorem oldest {plan : List RowT} (hs : plan.length ≤ 10000) (pos : PosT) : F_oldest ((), pos, ()) (plan, ()) = ⟨true, false, sOldest plan pos, ((), ()), ()⟩ := by
  rw [F_oldest_eq, soundF hs, (frontF hs pos).1]
  unfold sOldest
  cases h : sSound plan
  · rw [if_pos (.inl rfl)]; rfl
  · by_cases c : sFront plan pos = plan.length
    · rw [if_pos (.inr c)]; simp [c]
    · rw [if_neg (by rintro (h | h); cases h; exact c h), show (sFront plan pos == ((plan.length : Nat) : Int)) = false from beq_eq_false_iff_ne.mpr c]; simp only [Bool.not_true, cond_false, Bool.and_self]
theorem oldest_lt {plan : List RowT} (hs : plan.length ≤ 10000) (pos : PosT) (h : (sOldest plan pos).2.1 = true) : 0 ≤ (sOldest plan pos).1 ∧ (sOldest plan pos).1 < plan.length := by
  have hf := (frontF hs pos).2
  unfold sOldest at h ⊢
  split at h
  · cases h
  · rename_i c
    rw [if_neg c]
    simp only []
    refine ⟨hf.1, ?_⟩
    rcases hf.2 with q | q | q
    · exact q
    · rw [q]
      by_cases z : plan.length = 0
      · exact absurd (.inr (by omega)) c
      · omega
    · exact absurd (.inr q) c
def sDays (plan : List RowT) (pos : PosT) (today : Int) : Int :=
  if (sOldest plan pos).2.1 = false then 0
  else if today ≤ (plan.getD (sOldest plan pos).1.toNat (0, 0, 0, false, ())).1 then 0
  else W (today - (plan.getD (sOldest plan pos).1.toNat (0, 0, 0, false, ())).1)
theorem inI {i : Int} {n : Nat} (h1 : 0 ≤ i) (h2 : i < n) : ((decide ((0 : Int) ≤ i) && decide (i < ((n : Nat) : Int))) && (Nat.blt i.toNat n)) = true := by
  obtain ⟨m, rfl⟩ : ∃ m : Nat, i = m := ⟨i.toNat, by omega⟩
  exact inb (by omega)
theorem adays {plan : List RowT} (hs : plan.length ≤ 10000) (pos : PosT) (today : Int) : F_adays ((), pos, today, ()) (plan, ()) = ⟨true, false, sDays plan pos today, ((), ()), ()⟩ := by
  rw [F_adays_eq, oldest hs pos]
  unfold sDays
  have hl := oldest_lt hs pos
  cases h : (sOldest plan pos).2.1
  · rw [if_pos rfl]; simp only [h]; rfl
  · obtain ⟨l1, l2⟩ := hl h
    rw [if_neg (by simp)]
    simp only [h, csame, Bool.not_true, cond_false, Bool.true_and, inI l1 l2, Bool.and_true]
    by_cases c : today ≤ (plan.getD (sOldest plan pos).1.toNat (0, 0, 0, false, ())).1
    · rw [if_pos c, decide_eq_true c]; rfl
    · rw [if_neg c, decide_eq_false c]; rfl
theorem L_apast {plan : List RowT} {pos : PosT} {today : Int} (hs : plan.length ≤ 10000) : ∀ (n k i : Nat) (sum : Int), n < k → i + n = plan.length →
    good (L_apast_9 k ((today, (), sum, (), ((plan.length : Nat) : Int), (i : Int), ()), (plan, pos, ())))
  | n, 0, i, sum, hk, hn => by omega
  | 0, k + 1, i, sum, hk, hn => by
    rw [L_apast_9_eq]
    simp only [dF (show ¬ i < plan.length by omega), cond_false]
    exact good_mk rfl
  | n + 1, k + 1, i, sum, hk, hn => by
    rw [L_apast_9_eq]
    have c : i < plan.length := by omega
    simp only [inL c, csame, Bool.true_and]
    simp only [dT c, cond_true, wN (show i ≤ 10000000 by omega)]
    refine good_cond (fun _ => good_mk rfl) (fun _ => ?_)
    exact L_apast hs n k (i + 1) _ (by omega) (by omega)
theorem past_ex : ∃ f : List RowT → PosT → Int → Int, ∀ (plan : List RowT) (pos : PosT) (today : Int), plan.length ≤ 10000 → F_apast ((), pos, today, ()) (plan, ()) = ⟨true, false, f plan pos today, ((), ()), ()⟩ := by
  refine ⟨fun plan pos today => (F_apast ((), pos, today, ()) (plan, ())).ret, fun plan pos today hs => ?_⟩
  have h : good (F_apast ((), pos, today, ()) (plan, ())) := by
    rw [F_apast_eq, oldest hs pos]
    have hl := oldest_lt hs pos
    cases h : (sOldest plan pos).2.1
    · simp only [h, Bool.not_false, cond_true]
      exact good_mk rfl
    · obtain ⟨l1, l2⟩ := hl h
      simp only [h, csame, Bool.not_true, cond_false, Bool.true_and, inI l1 l2, Bool.and_true]
      have w : IntKind.i64.wrap (((plan.length : Nat) : Int) - 1) = ((plan.length : Nat) : Int) - 1 := w64 (by omega) (by omega)
      refine good_cond (fun _ => good_mk rfl) (fun _ => good_cond (fun _ => good_mk ?_) (fun _ => good_step ?_ ?_))
      · rw [w]; exact inI (by omega) (by omega)
      · rw [w]; exact inI (by omega) (by omega)
      · exact L_apast hs plan.length (plan.length + 2) 0 _ (by omega) (by omega)
  exact good_apast h
def sPast : List RowT → PosT → Int → Int := Classical.choose past_ex
theorem apast {plan : List RowT} (hs : plan.length ≤ 10000) (pos : PosT) (today : Int) : F_apast ((), pos, today, ()) (plan, ()) = ⟨true, false, sPast plan pos today, ((), ()), ()⟩ := Classical.choose_spec past_ex plan pos today hs
def missL (today grace : Int) : Nat → List RowT → List Int
  | _, [] => []
  | i, r :: rs => if (if today ≤ r.1 then 0 else W (today - r.1)) ≤ (if 0 > grace then 0 else grace) then []
    else if r.2.2.2.1 then missL today grace (i + 1) rs else (i : Int) :: missL today grace (i + 1) rs
def sMissed (plan : List RowT) (pos : PosT) (today grace : Int) : List Int :=
  if (sOldest plan pos).2.1 = false then [] else missL today grace (sOldest plan pos).1.toNat (plan.drop (sOldest plan pos).1.toNat)
theorem L_missed {plan : List RowT} {today grace : Int} (hs : plan.length ≤ 10000) : ∀ (n k i : Nat) (out : List Int), n < k → i + n = plan.length → out.length ≤ i →
    L_missed_7 k (((), today, grace, (), (i : Int), ()), (plan, out, ())) = ⟨true, false, (), ((), out ++ missL today grace i (plan.drop i), ()), ()⟩
  | n, 0, i, out, hk, hn, ho => by omega
  | 0, k + 1, i, out, hk, hn, ho => by
    rw [L_missed_7_eq]
    have e : plan.drop i = [] := List.drop_eq_nil_of_le (by omega)
    simp only [dF (show ¬ i < plan.length by omega), cond_false, e, missL, List.append_nil]
  | n + 1, k + 1, i, out, hk, hn, ho => by
    rw [L_missed_7_eq]
    have c : i < plan.length := by omega
    rw [drop1 ((0 : Int), (0 : Int), (0 : Int), false, ()) c]
    unfold missL
    have hb : Nat.blt i plan.length = true := Nat.ble_eq_true_of_le c
    have h0 : decide ((0 : Int) ≤ (i : Int)) = true := by simp
    generalize hE : plan.getD i ((0 : Int), (0 : Int), (0 : Int), false, ()) = r
    simp only [Int.toNat_natCast, hE, dT c, cond_true, csame, Bool.true_and, wN (show i ≤ 10000000 by omega), Bool.and_true]
    have hb2 : (((decide ((0 : Int) ≤ (i : Int)) && true) && Nat.blt i plan.length) && (decide ((0 : Int) ≤ (i : Int)) && true)) = true := by rw [h0, hb]; rfl
    have key : (bif decide (today ≤ r.1) then decide ((0 : Int) ≤ (if (0 > grace) then (0 : Int) else grace)) else decide ((IntKind.i64.wrap (today - r.1)) ≤ (if (0 > grace) then (0 : Int) else grace))) = decide ((if today ≤ r.1 then 0 else W (today - r.1)) ≤ (if 0 > grace then 0 else grace)) := by
      by_cases q : today ≤ r.1
      · rw [if_pos q, decide_eq_true q]; rfl
      · rw [if_neg q, decide_eq_false q]; rfl
    rw [key]
    by_cases c2 : (if today ≤ r.1 then 0 else W (today - r.1)) ≤ (if 0 > grace then 0 else grace)
    · rw [if_pos c2, decide_eq_true c2]; simp [c]
    · rw [if_neg c2, decide_eq_false c2]
      cases h4 : r.2.2.2.1
      · simp only [cond_false, cond_true, Bool.not_false]
        refine rstep ?_ ?_
        · simp only [h0, hb, Bool.true_and, Bool.and_true]; exact ble8 (by simp; omega)
        · rw [L_missed hs n k (i + 1) (out ++ [(i : Int)]) (by omega) (by omega) (by simp; omega)]
          simp
      · simp only [cond_false, cond_true, Bool.not_true]
        refine rstep ?_ ?_
        · simp only [h0, hb, Bool.true_and, Bool.and_true]
        · rw [L_missed hs n k (i + 1) out (by omega) (by omega) (by omega)]
          simp
theorem missed {plan : List RowT} (hs : plan.length ≤ 10000) (pos : PosT) (today grace : Int) : F_missed ((), pos, today, grace, ()) (plan, ()) = ⟨true, false, (), ((), sMissed plan pos today grace, ()), ()⟩ := by
  rw [F_missed_eq, oldest hs pos]
  unfold sMissed
  have hl := oldest_lt hs pos
  cases h : (sOldest plan pos).2.1
  · rw [if_pos rfl]; simp only [h]; rfl
  · obtain ⟨l1, l2⟩ := hl h
    rw [if_neg (by simp)]
    simp only [h, Bool.not_true, cond_false, Bool.true_and]
    obtain ⟨m, hm⟩ : ∃ m : Nat, (sOldest plan pos).1 = m := ⟨(sOldest plan pos).1.toNat, by omega⟩
    have hx := L_missed (plan := plan) (today := today) (grace := grace) hs (plan.length - m) (plan.length + 2) m [] (by omega) (by omega) (by simp)
    rw [hm]
    rw [List.nil_append] at hx
    rw [Int.toNat_natCast]
    refine (reta _).trans ?_
    have hk : k_missed ((), pos, today, grace, ()) (plan, ()) = plan.length + 2 := rfl
    rw [hk]
    exact hx
end
end Go.Proofs.YtlflclfhldghbaaGreatDoor.Fs
end
section
set_option maxRecDepth 20000
namespace Go.Proofs.YtlflclfhldghbaaGreatDoor.Fs
open Go Go.Proofs.YtlflclfhldghbaaGreatDoor.Ls P
def kret : KR → Int | .error e => e | .ok _ => 0
def kcase (c : CaseT) : KR → CaseT | .error _ => c | .ok x => x.1
def kacts (a : List Int) : KR → List Int | .error _ => a | .ok x => x.2
abbrev MachT := PolT × CaseT × Unit × Unit
def outM (p : PolT) (c : CaseT) (a : List Int) : MachT × Unit × Unit × List Int × Unit := ((p, c, (), ()), (), (), a, ())
theorem ctt {α : Type} (a b : α) : (bif true then a else b) = a := by
  have : ∀ c, c = true → (bif c then a else b) = a := fun c h => by cases c <;> simp_all
  exact this true rfl
theorem cff {α : Type} (a b : α) : (bif false then a else b) = b := by
  have : ∀ c, c = false → (bif c then a else b) = b := fun c h => by cases c <;> simp_all
  exact this false rfl
theorem tand (b : Bool) : (true && b) = b := by cases b <;> simp
theorem andt (b : Bool) : (b && true) = b := by cases b <;> simp
theorem mback (m : MachT) (m0 m1 : List Int) : F_mback ((), ()) (m, m0, m1, ()) = ⟨true, false, (), ((m.1, kBack m.2.1, (), ()), (), (), ()), ()⟩ := by
  rw [F_mback_eq]
  simp only [csame]
  rfl
theorem mend (m : MachT) (st act : Int) (m0 m1 : List Int) (h : m1.length ≤ 1000) : F_mend ((), st, act, ()) (m, m0, m1, ()) = ⟨true, false, (), outM m.1 (kEnd m.2.1 st) (m1 ++ [act]), ()⟩ := by
  rw [F_mend_eq, ble8 (by simp; omega)]
  rfl
theorem cond3 (a b c : Bool) : (bif a then true else (bif b then true else c)) = (a || (b || c)) := by cases a <;> cases b <;> rfl
theorem notnot (b : Bool) : (bif b then (!true) else (!false)) = !b := by cases b <;> rfl
theorem condid (b : Bool) : (bif b then true else false) = b := by cases b <;> rfl
theorem cor (a b : Bool) : (bif a then true else b) = (a || b) := by cases a <;> rfl
theorem cand (a b : Bool) : (bif a then b else false) = (a && b) := by cases a <;> rfl
theorem kOpenD (c : CaseT) : (c.1 == 3 || (c.1 == 4 || c.1 == 5)) = kOpen c := rfl
theorem kOverD (c : CaseT) : (c.1 == 8 || c.1 == 9) = kOver c := rfl
theorem age22T (k : Nat) (m : MachT) (m0 a : List Int) (e : EvT) (h : a.length ≤ 100) :
    L_mage_22 (k + 1) (((), (), ()), (m, m0, a, e, ())) = ⟨true, false, kret (age22 e.2.1 m.2.1 a), outM m.1 (kcase m.2.1 (age22 e.2.1 m.2.1 a)) (kacts a (age22 e.2.1 m.2.1 a)), ()⟩ := by
  rw [L_mage_22_eq, mend m 8 4 m0 a (by omega)]
  unfold age22
  by_cases c : Kdead m.2.1 ≤ e.2.1
  · rw [if_pos c, decide_eq_true (show e.2.1 ≥ m.2.1.2.2.2.2.1 from c)]; rfl
  · rw [if_neg c, decide_eq_false (show ¬ e.2.1 ≥ m.2.1.2.2.2.2.1 from c)]; rfl
theorem age21T (k : Nat) (m : MachT) (m0 a : List Int) (e : EvT) (h : a.length ≤ 100) :
    L_mage_21 (k + 1) (((), (), ()), (m, m0, a, e, ())) = ⟨true, false, kret (age22 e.2.1 m.2.1 (a ++ [3])), outM m.1 (kcase m.2.1 (age22 e.2.1 m.2.1 (a ++ [3]))) (kacts a (age22 e.2.1 m.2.1 (a ++ [3]))), ()⟩ := by
  rw [L_mage_21_eq, mend m 8 4 m0 (a ++ [3]) (by simp; omega), ble8 (by simp; omega)]
  unfold age22
  by_cases c : Kdead m.2.1 ≤ e.2.1
  · rw [if_pos c, decide_eq_true (show e.2.1 ≥ m.2.1.2.2.2.2.1 from c)]; rfl
  · rw [if_neg c, decide_eq_false (show ¬ e.2.1 ≥ m.2.1.2.2.2.2.1 from c)]; rfl
theorem age22_ok (t : Int) (c : CaseT) (a : List Int) : ∃ x, age22 t c a = .ok x := by
  unfold age22; split <;> exact ⟨_, rfl⟩
theorem age15T (k : Nat) (m : MachT) (m0 a : List Int) (e : EvT) (h : a.length ≤ 100) :
    L_mage_15 (k + 3) (((), (), ()), (m, m0, a, e, ())) = ⟨true, false, kret (age15 m.1 e.2.1 e.2.2.1 m.2.1 a), outM m.1 (kcase m.2.1 (age15 m.1 e.2.1 e.2.2.1 m.2.1 a)) (kacts a (age15 m.1 e.2.1 e.2.2.1 m.2.1 a)), ()⟩ := by
  rw [show k + 3 = (k + 2) + 1 by omega, L_mage_15_eq]
  simp only [cond3, csame, notnot, kOpenD]
  unfold age15
  cases ho : kOpen m.2.1
  · rw [if_pos rfl]; rfl
  · rw [if_neg (by simp)]
    simp only [Bool.not_true, cond_false, Bool.true_and]
    refine (reta _).trans ?_
    rw [L_mage_17_eq]
    simp only [csame, cand, Bool.true_and]
    cases hs : m.2.1.2.1
    · by_cases hd : Pnon m.1 ≤ e.2.2.1
      · rw [if_pos ⟨hs, hd⟩, decide_eq_true (show e.2.2.1 ≥ m.1.2.2.1 from hd)]
        simp only [Bool.not_false, Bool.and_self, cond_true]
        by_cases h3 : m.2.1.1 = 3
        · rw [show (m.2.1.1 == 3) = true from by simpa using h3, if_pos h3]
          simp only [cond_true]
          refine (reta _).trans ?_
          rw [age21T k _ m0 a e h]
          obtain ⟨x, hx⟩ := age22_ok e.2.1 ((5 : Int), true, m.2.1.2.2) (a ++ [3])
          simp only [hx]; rfl
        · rw [show (m.2.1.1 == 3) = false from by simpa using h3, if_neg h3]
          simp only [cond_false]
          refine (reta _).trans ?_
          rw [age21T k _ m0 a e h]
          obtain ⟨x, hx⟩ := age22_ok e.2.1 (m.2.1.1, true, m.2.1.2.2) (a ++ [3])
          simp only [hx]; rfl
      · rw [if_neg (fun q => hd q.2), decide_eq_false (show ¬ e.2.2.1 ≥ m.1.2.2.1 from hd)]
        simp only [Bool.and_false, cond_false]
        refine (reta _).trans ?_
        exact age22T k m m0 a e h
    · rw [if_neg (fun q => by have := q.1.symm.trans hs; cases this)]
      simp only [Bool.not_true, Bool.false_and, cond_false]
      refine (reta _).trans ?_
      exact age22T k m m0 a e h
theorem age15_ok (p : PolT) (t d : Int) (c : CaseT) (a : List Int) : ∃ x, age15 p t d c a = .ok x := by
  unfold age15; split
  · exact ⟨_, rfl⟩
  · split <;> exact age22_ok _ _ _
theorem kirr {R : KR} (h : ∃ x, R = .ok x) (p : PolT) (c1 c2 : CaseT) (a1 a2 : List Int) : outM p (kcase c1 R) (kacts a1 R) = outM p (kcase c2 R) (kacts a2 R) := by
  obtain ⟨x, rfl⟩ := h; rfl
theorem age10T (k : Nat) (m : MachT) (m0 a : List Int) (e : EvT) (h : a.length ≤ 90) :
    L_mage_10 (k + 4) (((), (), ()), (m, m0, a, e, ())) = ⟨true, false, kret (age10 m.1 e.2.1 e.2.2.1 m.2.1 a), outM m.1 (kcase m.2.1 (age10 m.1 e.2.1 e.2.2.1 m.2.1 a)) (kacts a (age10 m.1 e.2.1 e.2.2.1 m.2.1 a)), ()⟩ := by
  rw [show k + 4 = (k + 3) + 1 by omega, L_mage_10_eq]
  simp only [cond3, csame, notnot, kOpenD]
  unfold age10
  cases ho : kOpen m.2.1
  · rw [if_pos rfl]
    simp only [Bool.not_false, cond_true, Bool.true_and]
    by_cases c1 : Pgrace m.1 < e.2.2.1
    · rw [if_pos c1, decide_eq_true (show e.2.2.1 > m.1.2.1 from c1)]
      simp only [cond_true]
      refine (rstep (ble8 (by simp; omega)) (age15T k _ m0 (a ++ [2]) e (by simp; omega))).trans ?_
      exact congrArg (fun z => (⟨true, false, _, z, ()⟩ : Res TT g_mage)) (kirr (age15_ok _ _ _ _ _) _ _ _ _ _)
    · rw [if_neg c1, decide_eq_false (show ¬ e.2.2.1 > m.1.2.1 from c1)]
      simp only [cond_false]
      by_cases c2 : 0 < e.2.2.1
      · rw [if_pos c2, decide_eq_true (show e.2.2.1 > 0 from c2)]
        simp only [cond_true]
        refine (reta _).trans ?_
        rw [age15T k _ m0 a e (by omega)]
        exact congrArg (fun z => (⟨true, false, _, z, ()⟩ : Res TT g_mage)) (kirr (age15_ok _ _ _ _ _) _ _ _ _ _)
      · rw [if_neg c2, decide_eq_false (show ¬ e.2.2.1 > 0 from c2)]
        simp only [cond_false]
        by_cases c3 : m.2.1.1 = 2
        · rw [if_pos c3, show (m.2.1.1 == 2) = true from by simpa using c3]
          simp only [cond_true]
          refine (reta _).trans ?_
          rw [age15T k _ m0 a e (by omega)]
          exact congrArg (fun z => (⟨true, false, _, z, ()⟩ : Res TT g_mage)) (kirr (age15_ok _ _ _ _ _) _ _ _ _ _)
        · rw [if_neg c3, show (m.2.1.1 == 2) = false from by simpa using c3]
          simp only [cond_false]
          refine (reta _).trans ?_
          exact age15T k m m0 a e (by omega)
  · rw [if_neg (by simp)]
    simp only [Bool.not_true, cond_false, Bool.true_and]
    by_cases c1 : e.2.2.1 = 0
    · rw [if_pos c1, show (e.2.2.1 == 0) = true from by simpa using c1]
      simp only [cond_true]
      rw [mend _ 6 6 m0 a (by omega)]
      rfl
    · rw [if_neg c1, show (e.2.2.1 == 0) = false from by simpa using c1]
      simp only [cond_false]
      refine (reta _).trans ?_
      exact age15T k m m0 a e (by omega)
theorem age10_ok (p : PolT) (t d : Int) (c : CaseT) (a : List Int) : ∃ x, age10 p t d c a = .ok x := by
  unfold age10; split
  · split
    · exact age15_ok _ _ _ _ _
    · split
      · exact age15_ok _ _ _ _ _
      · split <;> exact age15_ok _ _ _ _ _
  · split
    · exact ⟨_, rfl⟩
    · exact age15_ok _ _ _ _ _
theorem isDayN (d : Int) : (!(decide (d ≥ 1) && decide (d ≤ 3652059))) = !isDay d := rfl
theorem mage (m : MachT) (m0 a : List Int) (e : EvT) (h : a.length ≤ 80) :
    F_mage ((), e, ()) (m, m0, a, ()) = ⟨true, false, kret (sAge m.1 m.2.1 a e.2.1 e.2.2.1), outM m.1 (kcase m.2.1 (sAge m.1 m.2.1 a e.2.1 e.2.2.1)) (kacts a (sAge m.1 m.2.1 a e.2.1 e.2.2.1)), ()⟩ := by
  rw [F_mage_eq]
  have hk : k_mage ((), e, ()) (m, m0, a, ()) = 6 + 4 := rfl
  simp only [csame, cor, cand, isDayN, kOverD, Bool.and_true]
  rw [hk]
  unfold sAge
  by_cases c1 : isDay e.2.1 = false ∨ e.2.2.1 < 0
  · rw [if_pos c1]
    have : (!isDay e.2.1 || decide (e.2.2.1 < 0)) = true := by rcases c1 with q | q <;> simp [q]
    rw [this]; rfl
  · rw [if_neg c1]
    have : (!isDay e.2.1 || decide (e.2.2.1 < 0)) = false := by
      have q1 : isDay e.2.1 = true := by cases hh : isDay e.2.1; exact absurd (.inl hh) c1; rfl
      have q2 : ¬ e.2.2.1 < 0 := fun q => c1 (.inr q)
      simp [q1, q2]
    rw [this]
    simp only [cond_false]
    cases ho : kOver m.2.1
    · rw [if_neg (by simp)]
      simp only [cond_false]
      by_cases c2 : Kst m.2.1 = 4 ∧ Kpdue m.2.1 < e.2.1
      · rw [if_pos c2, show (m.2.1.1 == 4) = true from by simpa using c2.1, decide_eq_true (show e.2.1 > m.2.1.2.2.2.2.2.2.1 from c2.2)]
        simp only [Bool.and_self, cond_true]
        rw [mback]
        refine (rstep (ble8 (by simp; omega)) (age10T 6 _ m0 (a ++ [1]) e (by simp; omega))).trans ?_
        exact congrArg (fun z => (⟨true, false, _, z, ()⟩ : Res TT g_mage)) (kirr (age10_ok _ _ _ _ _) _ _ _ _ _)
      · rw [if_neg c2]
        have : ((m.2.1.1 == 4) && decide (e.2.1 > m.2.1.2.2.2.2.2.2.1)) = false := by
          rw [Bool.eq_false_iff]; intro q; simp at q; exact c2 q
        rw [this]
        simp only [cond_false, Bool.true_and]
        refine (reta _).trans ?_
        exact age10T 6 m m0 a e (by omega)
    · rw [if_pos rfl]; rfl
theorem paid15_ok (d : Int) (c : CaseT) (a : List Int) : ∃ x, paid15 d c a = .ok x := by
  unfold paid15; split
  · exact ⟨_, rfl⟩
  · split
    · exact ⟨_, rfl⟩
    · split <;> exact ⟨_, rfl⟩
theorem paid15T (k : Nat) (m : MachT) (m0 a : List Int) (e : EvT) (h : a.length ≤ 90) :
    L_mpaid_15 (k + 2) (((), (), ()), (m, m0, a, e, ())) = ⟨true, false, kret (paid15 e.2.2.1 m.2.1 a), outM m.1 (kcase m.2.1 (paid15 e.2.2.1 m.2.1 a)) (kacts a (paid15 e.2.2.1 m.2.1 a)), ()⟩ := by
  rw [show k + 2 = (k + 1) + 1 by omega, L_mpaid_15_eq]
  unfold paid15
  by_cases c1 : 0 < e.2.2.1
  · rw [if_pos c1, decide_eq_true (show e.2.2.1 > 0 from c1)]; rfl
  · rw [if_neg c1, decide_eq_false (show ¬ e.2.2.1 > 0 from c1)]
    simp only [cff]
    rw [L_mpaid_17_eq]
    simp only [cond3, csame, condid, kOpenD]
    cases ho : kOpen m.2.1
    · rw [if_neg (by simp)]
      simp only [cff]
      by_cases c2 : Kst m.2.1 = 2
      · rw [if_pos c2, show (m.2.1.1 == 2) = true from by simpa using c2]; rfl
      · rw [if_neg c2, show (m.2.1.1 == 2) = false from by simpa using c2]; rfl
    · rw [if_pos rfl]
      simp only [ctt]
      rw [mend _ 6 6 m0 a (by omega)]; rfl
theorem mpaid (m : MachT) (m0 a : List Int) (e : EvT) (h : a.length ≤ 80) :
    F_mpaid ((), e, ()) (m, m0, a, ()) = ⟨true, false, kret (sPaid m.2.1 a e.2.2.1 e.2.2.2.1), outM m.1 (kcase m.2.1 (sPaid m.2.1 a e.2.2.1 e.2.2.2.1)) (kacts a (sPaid m.2.1 a e.2.2.1 e.2.2.2.1)), ()⟩ := by
  rw [F_mpaid_eq]
  have hk : k_mpaid ((), e, ()) (m, m0, a, ()) = 8 + 2 := rfl
  simp only [csame, cor, cand, kOverD, andt]
  rw [hk]
  unfold sPaid
  by_cases c1 : e.2.2.2.1 < 1
  · rw [if_pos c1, decide_eq_true c1]; rfl
  rw [if_neg c1, decide_eq_false c1]
  by_cases c2 : e.2.2.1 < 0
  · rw [if_pos c2, decide_eq_true c2]; rfl
  rw [if_neg c2, decide_eq_false c2]
  simp only [cff]
  cases ho : kOver m.2.1
  · rw [if_neg (by simp)]
    simp only [cff]
    by_cases c3 : Kst m.2.1 = 4
    · rw [if_pos c3, show (m.2.1.1 == 4) = true from by simpa using c3]
      simp only [ctt]
      by_cases c4 : W (Kpamt m.2.1 - Kpgot m.2.1) ≤ e.2.2.2.1
      · rw [if_pos c4, decide_eq_true (show e.2.2.2.1 ≥ IntKind.i64.wrap (m.2.1.2.2.2.2.2.2.2.1 - m.2.1.2.2.2.2.2.2.2.2.1) from c4)]
        simp only [ctt]
        rw [mback]
        simp only []
        refine (rstep (ble8 (by simp; omega)) (paid15T 8 _ m0 (a ++ [5]) e (by simp; omega))).trans ?_
        exact congrArg (fun z => (⟨true, false, _, z, ()⟩ : Res TT g_mpaid)) (kirr (paid15_ok _ _ _) _ _ _ _ _)
      · rw [if_neg c4, decide_eq_false (show ¬ e.2.2.2.1 ≥ IntKind.i64.wrap (m.2.1.2.2.2.2.2.2.2.1 - m.2.1.2.2.2.2.2.2.2.2.1) from c4)]
        simp only [cff, tand]
        refine (reta _).trans ?_
        rw [paid15T 8 _ m0 a e (by omega)]
        exact congrArg (fun z => (⟨true, false, _, z, ()⟩ : Res TT g_mpaid)) (kirr (paid15_ok _ _ _) _ _ _ _ _)
    · rw [if_neg c3, show (m.2.1.1 == 4) = false from by simpa using c3]
      simp only [cff, tand]
      refine (reta _).trans ?_
      exact paid15T 8 m m0 a e (by omega)
  · rw [if_pos rfl]; rfl
theorem mreturned (m : MachT) (m0 a : List Int) (e : EvT) (h : a.length ≤ 80) :
    F_mreturned ((), e, ()) (m, m0, a, ()) = ⟨true, false, kret (sReturned m.2.1 a e.2.2.2.1), outM m.1 (kcase m.2.1 (sReturned m.2.1 a e.2.2.2.1)) (kacts a (sReturned m.2.1 a e.2.2.2.1)), ()⟩ := by
  rw [F_mreturned_eq]
  simp only [csame, cor, kOverD]
  unfold sReturned
  by_cases c1 : e.2.2.2.1 < 1
  · rw [if_pos c1, decide_eq_true c1]; rfl
  rw [if_neg c1, decide_eq_false c1]
  simp only [cff]
  cases ho : kOver m.2.1
  · rw [if_neg (show ¬ (false = true) by simp)]
    simp only [cff]
    by_cases c3 : Kst m.2.1 = 4
    · rw [if_pos c3, show (m.2.1.1 == 4) = true from by simpa using c3]; rfl
    · rw [if_neg c3, show (m.2.1.1 == 4) = false from by simpa using c3]; rfl
  · rw [if_pos rfl]; rfl
theorem mpromise (m : MachT) (m0 a : List Int) (e : EvT) (h : a.length ≤ 80) :
    F_mpromise ((), e, ()) (m, m0, a, ()) = ⟨true, false, kret (sPromise m.1 m.2.1 a e.2.1 e.2.2.1 e.2.2.2.1), outM m.1 (kcase m.2.1 (sPromise m.1 m.2.1 a e.2.1 e.2.2.1 e.2.2.2.1)) (kacts a (sPromise m.1 m.2.1 a e.2.1 e.2.2.1 e.2.2.2.1)), ()⟩ := by
  rw [F_mpromise_eq]
  simp only [csame, cor, cand, isDayN, kOverD, kOpenD, notnot, andt]
  unfold sPromise
  by_cases c1 : isDay e.2.1 = false ∨ e.2.2.1 < 1 ∨ Ppdays m.1 < e.2.2.1
  · rw [if_pos c1]
    have : (!isDay e.2.1 || (decide (e.2.2.1 < 1) || decide (e.2.2.1 > m.1.2.2.2.2.2.2.2.2.2.2.1))) = true := by
      rcases c1 with q | q | q
      · simp [q]
      · simp [q]
      · rw [decide_eq_true (show e.2.2.1 > m.1.2.2.2.2.2.2.2.2.2.2.1 from q)]; simp
    rw [this]; rfl
  rw [if_neg c1]
  have : (!isDay e.2.1 || (decide (e.2.2.1 < 1) || decide (e.2.2.1 > m.1.2.2.2.2.2.2.2.2.2.2.1))) = false := by
    have q1 : isDay e.2.1 = true := by cases hh : isDay e.2.1; exact absurd (.inl hh) c1; rfl
    rw [q1, decide_eq_false (fun q => c1 (.inr (.inl q))), decide_eq_false (show ¬ e.2.2.1 > m.1.2.2.2.2.2.2.2.2.2.2.1 from fun q => c1 (.inr (.inr q)))]; rfl
  rw [this]
  by_cases c2 : e.2.2.2.1 < 1
  · rw [if_pos c2, decide_eq_true c2]; rfl
  rw [if_neg c2, decide_eq_false c2]
  simp only [cff]
  cases ho : kOver m.2.1
  · rw [if_neg (by simp)]
    cases hp : kOpen m.2.1
    · rw [if_pos rfl]; rfl
    rw [if_neg (by simp)]
    simp only [cff, Bool.not_true]
    by_cases c3 : Kst m.2.1 = 4
    · rw [if_pos c3, show (m.2.1.1 == 4) = true from by simpa using c3]; rfl
    rw [if_neg c3, show (m.2.1.1 == 4) = false from by simpa using c3]
    by_cases c4 : Pproms m.1 ≤ Kprom m.2.1
    · rw [if_pos c4, decide_eq_true (show m.2.1.2.2.2.2.2.1 ≥ m.1.2.2.2.2.2.2.2.2.2.1 from c4)]; rfl
    · rw [if_neg c4, decide_eq_false (show ¬ m.2.1.2.2.2.2.2.1 ≥ m.1.2.2.2.2.2.2.2.2.2.1 from c4)]; rfl
  · rw [if_pos rfl]; rfl
theorem mrestructure (m : MachT) (m0 a : List Int) (e : EvT) (h : a.length ≤ 80) :
    F_mrestructure ((), e, ()) (m, m0, a, ()) = ⟨true, false, kret (sRestr m.1 m.2.1 a), outM m.1 (kcase m.2.1 (sRestr m.1 m.2.1 a)) (kacts a (sRestr m.1 m.2.1 a)), ()⟩ := by
  rw [F_mrestructure_eq]
  simp only [csame, cor, cand, kOverD, kOpenD, notnot, andt]
  unfold sRestr
  cases ho : kOver m.2.1
  · rw [if_neg (show ¬ (false = true) by simp)]
    cases hp : kOpen m.2.1
    · rw [if_pos rfl]; rfl
    rw [if_neg (show ¬ (true = false) by simp)]
    by_cases c4 : Prestr m.1 ≤ Krestr m.2.1
    · rw [if_pos c4, decide_eq_true (show m.2.1.2.2.2.2.2.2.2.2.2.2.2.2.1 ≥ m.1.2.2.2.2.2.2.2.2.2.2.2.1 from c4)]; rfl
    · rw [if_neg c4, decide_eq_false (show ¬ m.2.1.2.2.2.2.2.2.2.2.2.2.2.2.1 ≥ m.1.2.2.2.2.2.2.2.2.2.2.2.1 from c4)]
      rw [mend _ 7 7 m0 a (by omega)]; rfl
  · rw [if_pos rfl]; rfl
theorem mfee (m : MachT) (m0 a : List Int) (e : EvT) (h : a.length ≤ 80) :
    F_mfee ((), e, ()) (m, m0, a, ()) = ⟨true, false, kret (sFee m.1 m.2.1 a e.2.2.2.1), outM m.1 (kcase m.2.1 (sFee m.1 m.2.1 a e.2.2.2.1)) (kacts a (sFee m.1 m.2.1 a e.2.2.2.1)), ()⟩ := by
  rw [F_mfee_eq]
  simp only [csame, cor, cand, kOverD, kOpenD, notnot, andt]
  unfold sFee
  by_cases c1 : e.2.2.2.1 < 1
  · rw [if_pos c1, decide_eq_true c1]; rfl
  rw [if_neg c1, decide_eq_false c1]
  cases ho : kOver m.2.1
  · rw [if_neg (show ¬ (false = true) by simp)]
    cases hp : kOpen m.2.1
    · rw [if_pos rfl]; rfl
    rw [if_neg (show ¬ (true = false) by simp)]
    by_cases c3 : Kst m.2.1 = 4
    · rw [if_pos c3, show (m.2.1.1 == 4) = true from by simpa using c3]; rfl
    rw [if_neg c3, show (m.2.1.1 == 4) = false from by simpa using c3]
    by_cases c4 : W (Pcap m.1 - e.2.2.2.1) < Kcfee m.2.1
    · rw [if_pos (.inl c4), decide_eq_true (show m.2.1.2.2.2.2.2.2.2.2.2.2.2.2.2.1 > IntKind.i64.wrap (m.1.2.2.2.2.2.2.2.1 - e.2.2.2.1) from c4)]; rfl
    rw [decide_eq_false (show ¬ m.2.1.2.2.2.2.2.2.2.2.2.2.2.2.2.1 > IntKind.i64.wrap (m.1.2.2.2.2.2.2.2.1 - e.2.2.2.1) from c4)]
    by_cases c5 : W (Plife m.1 - e.2.2.2.1) < Klfee m.2.1
    · rw [if_pos (.inr c5), decide_eq_true (show m.2.1.2.2.2.2.2.2.2.2.2.2.2.2.2.2.1 > IntKind.i64.wrap (m.1.2.2.2.2.2.2.2.2.1 - e.2.2.2.1) from c5)]; rfl
    · rw [if_neg (by rintro (q | q); exact c4 q; exact c5 q), decide_eq_false (show ¬ m.2.1.2.2.2.2.2.2.2.2.2.2.2.2.2.2.1 > IntKind.i64.wrap (m.1.2.2.2.2.2.2.2.2.1 - e.2.2.2.1) from c5)]; rfl
  · rw [if_pos rfl]; rfl
theorem mclose (m : MachT) (m0 a : List Int) (e : EvT) (h : a.length ≤ 80) :
    F_mclose ((), e, ()) (m, m0, a, ()) = ⟨true, false, kret (sClose m.2.1 a), outM m.1 (kcase m.2.1 (sClose m.2.1 a)) (kacts a (sClose m.2.1 a)), ()⟩ := by
  rw [F_mclose_eq]
  simp only [csame, cor, cand, kOverD, kOpenD, condid, andt]
  unfold sClose
  cases ho : kOver m.2.1
  · rw [if_neg (show ¬ (false = true) by simp)]
    cases hp : kOpen m.2.1
    · rw [if_neg (show ¬ (false = true) by simp)]
      simp only [cff]
      rw [ble8 (by simp; omega)]; rfl
    · rw [if_pos rfl, mend _ 6 6 m0 a (by omega)]
      simp only [ctt, cff]
      unfold outM
      simp only []
      rw [ble8 (by simp; omega)]; rfl
  · rw [if_pos rfl]; rfl
end Go.Proofs.YtlflclfhldghbaaGreatDoor.Fs
end
section
set_option maxRecDepth 20000
namespace Go.Proofs.YtlflclfhldghbaaGreatDoor.Fs
open Go Go.Proofs.YtlflclfhldghbaaGreatDoor.Ls P
def nz (r : KR) : Prop := ∀ x, r = .error x → x ≠ 0
theorem nz_ok {r : KR} (h : ∃ x, r = .ok x) : nz r := by
  obtain ⟨x, rfl⟩ := h; intro y hy; cases hy
theorem nz_err {e : Int} (h : e ≠ 0) : nz (.error e) := by intro y hy; cases hy; exact h
theorem nz_age (p c a t d) : nz (sAge p c a t d) := by
  unfold sAge; split
  · exact nz_err (by omega)
  split
  · exact nz_err (by omega)
  split <;> exact nz_ok (age10_ok _ _ _ _ _)
theorem nz_paid (c a d x) : nz (sPaid c a d x) := by
  unfold sPaid; split
  · exact nz_err (by omega)
  split
  · exact nz_err (by omega)
  split
  · exact nz_err (by omega)
  split
  · split <;> exact nz_ok (paid15_ok _ _ _)
  · exact nz_ok (paid15_ok _ _ _)
theorem nz_returned (c a x) : nz (sReturned c a x) := by
  unfold sReturned; split
  · exact nz_err (by omega)
  split
  · exact nz_err (by omega)
  split <;> exact nz_ok ⟨_, rfl⟩
theorem nz_promise (p c a t d x) : nz (sPromise p c a t d x) := by
  unfold sPromise; split
  · exact nz_err (by omega)
  split
  · exact nz_err (by omega)
  split
  · exact nz_err (by omega)
  split
  · exact nz_err (by omega)
  split
  · exact nz_err (by omega)
  split
  · exact nz_err (by omega)
  · exact nz_ok ⟨_, rfl⟩
theorem nz_restr (p c a) : nz (sRestr p c a) := by
  unfold sRestr; split
  · exact nz_err (by omega)
  split
  · exact nz_err (by omega)
  split
  · exact nz_err (by omega)
  · exact nz_ok ⟨_, rfl⟩
theorem nz_fee (p c a x) : nz (sFee p c a x) := by
  unfold sFee; split
  · exact nz_err (by omega)
  split
  · exact nz_err (by omega)
  split
  · exact nz_err (by omega)
  split
  · exact nz_err (by omega)
  split
  · exact nz_err (by omega)
  · exact nz_ok ⟨_, rfl⟩
theorem nz_close (c a) : nz (sClose c a) := by
  unfold sClose; split
  · exact nz_err (by omega)
  split <;> exact nz_ok ⟨_, rfl⟩
def kacts0 : KR → List Int | .error _ => [] | .ok x => x.2
def stepR (c : CaseT) (r : KR) : Res TT g_step := ⟨true, false, (kcase c r, (), kret r, ()), ((), kacts0 r, ()), ()⟩
theorem stepFin {c : CaseT} {p : PolT} {r : KR} (h : nz r) :
    (bif (kret r != 0) then (⟨true, false, (c, (), kret r, ()), ((), ([] : List Int), ()), ()⟩ : Res TT g_step) else ⟨true, false, ((outM p (kcase c r) (kacts ([] : List Int) r)).1.2.1, (), (0 : Int), ()), (outM p (kcase c r) (kacts ([] : List Int) r)).2.2, ()⟩) = stepR c r := by
  unfold stepR
  rcases r with x | x
  · have : (x != 0) = true := by simpa using h x rfl
    show (bif (x != 0) then _ else _) = _
    rw [this, ctt]; rfl
  · rfl
theorem step (p : PolT) (c : CaseT) (e : EvT) (p0 : List Int) (hp : (chk p p0).1 = 0) :
    F_step (p, c, e, ()) (p0, ()) = stepR c (sStep p c e) := by
  rw [F_step_eq, check p p0, mage (p, c, (), ()) p0 [] e (by simp), mpaid (p, c, (), ()) p0 [] e (by simp), mreturned (p, c, (), ()) p0 [] e (by simp), mpromise (p, c, (), ()) p0 [] e (by simp), mrestructure (p, c, (), ()) p0 [] e (by simp), mfee (p, c, (), ()) p0 [] e (by simp), mclose (p, c, (), ()) p0 [] e (by simp)]
  have h0 : ((chk p p0).1 != 0) = false := by simpa using hp
  simp only [h0, cff, csame, cor, tand, andt]
  unfold sStep
  by_cases c1 : e.1 < 1 ∨ 7 < e.1
  · rw [if_pos c1]
    have : (decide (e.1 < 1) || decide (e.1 > 7)) = true := by rcases c1 with q | q <;> simp [q]
    rw [this, ctt]; rfl
  · rw [if_neg c1]
    have : (decide (e.1 < 1) || decide (e.1 > 7)) = false := by
      rw [decide_eq_false (fun q => c1 (.inl q)), decide_eq_false (show ¬ e.1 > 7 from fun q => c1 (.inr q))]; rfl
    rw [this, cff]
    by_cases q1 : e.1 = 1
    · rw [if_pos q1, show (e.1 == 1) = true from by simpa using q1, ctt]; exact stepFin (nz_age _ _ _ _ _)
    rw [if_neg q1, show (e.1 == 1) = false from by simpa using q1, cff]
    by_cases q2 : e.1 = 2
    · rw [if_pos q2, show (e.1 == 2) = true from by simpa using q2, ctt]; exact stepFin (nz_paid _ _ _ _)
    rw [if_neg q2, show (e.1 == 2) = false from by simpa using q2, cff]
    by_cases q3 : e.1 = 3
    · rw [if_pos q3, show (e.1 == 3) = true from by simpa using q3, ctt]; exact stepFin (nz_returned _ _ _)
    rw [if_neg q3, show (e.1 == 3) = false from by simpa using q3, cff]
    by_cases q4 : e.1 = 4
    · rw [if_pos q4, show (e.1 == 4) = true from by simpa using q4, ctt]; exact stepFin (nz_promise _ _ _ _ _ _)
    rw [if_neg q4, show (e.1 == 4) = false from by simpa using q4, cff]
    by_cases q5 : e.1 = 5
    · rw [if_pos q5, show (e.1 == 5) = true from by simpa using q5, ctt]; exact stepFin (nz_restr _ _ _)
    rw [if_neg q5, show (e.1 == 5) = false from by simpa using q5, cff]
    by_cases q6 : e.1 = 6
    · rw [if_pos q6, show (e.1 == 6) = true from by simpa using q6, ctt]; exact stepFin (nz_fee _ _ _ _)
    rw [if_neg q6, show (e.1 == 6) = false from by simpa using q6, cff]
    exact stepFin (nz_close _ _)
theorem L_indF {s : List EntT} (hs : s.length ≤ 10000) : ∀ (n k i : Nat), n < k → i + n = s.length →
    ∃ r : Int, L_indF_3 k (((), (), ((s.length : Nat) : Int), (i : Int), ()), (s, ())) = ⟨true, false, r, ((), ()), ()⟩ ∧
      ((r = -1 ∧ (s.drop i).filter (fun e => e.2.2.1 != 0) = s.drop i) ∨ ∃ j : Nat, r = j ∧ i ≤ j ∧ j < s.length ∧ (s.getD j (0, 0, 0, ())).2.2.1 = 0 ∧ (s.drop i).filter (fun e => e.2.2.1 != 0) = (s.drop i).take (j - i) ++ (s.drop j).filter (fun e => e.2.2.1 != 0))
  | n, 0, i, hk, hn => by omega
  | 0, k + 1, i, hk, hn => by
    rw [L_indF_3_eq]
    have e : s.drop i = [] := List.drop_eq_nil_of_le (by omega)
    rw [dF (show ¬ i < s.length by omega), cff, e]
    exact ⟨-1, rfl, .inl ⟨rfl, rfl⟩⟩
  | n + 1, k + 1, i, hk, hn => by
    rw [L_indF_3_eq]
    have c : i < s.length := by omega
    rw [dT c, ctt]
    simp only [Int.toNat_natCast]
    have hb : Nat.blt i s.length = true := Nat.ble_eq_true_of_le c
    have h0 : decide ((0 : Int) ≤ (i : Int)) = true := by simp
    rw [h0, hb, wN (show i ≤ 10000000 by omega)]
    have hd := drop1 ((0 : Int), (0 : Int), (0 : Int), ()) c
    by_cases z : (s.getD i ((0 : Int), (0 : Int), (0 : Int), ())).2.2.1 = 0
    · rw [show ((s.getD i ((0 : Int), (0 : Int), (0 : Int), ())).2.2.1 == 0) = true from by simpa using z, ctt]
      refine ⟨(i : Int), rfl, .inr ⟨i, rfl, by omega, c, z, ?_⟩⟩
      simp
    · rw [show ((s.getD i ((0 : Int), (0 : Int), (0 : Int), ())).2.2.1 == 0) = false from by simpa using z, cff]
      obtain ⟨r, e, h⟩ := L_indF hs n k (i + 1) (by omega) (by omega)
      refine ⟨r, rstep rfl e, ?_⟩
      have hz : ((s.getD i ((0 : Int), (0 : Int), (0 : Int), ())).2.2.1 != 0) = true := by simpa using z
      rcases h with ⟨h1, h2⟩ | ⟨j, h1, h2, h3, h4, h5⟩
      · refine .inl ⟨h1, ?_⟩
        rw [hd, List.filter_cons, hz, if_pos rfl, h2]
      · refine .inr ⟨j, h1, by omega, h3, h4, ?_⟩
        rw [hd, List.filter_cons, hz, if_pos rfl, h5]
        obtain ⟨m, hm⟩ : ∃ m, j - i = m + 1 := ⟨j - i - 1, by omega⟩
        rw [hm, List.take_succ_cons, show j - (i + 1) = m by omega]
        rfl
theorem L_delF : ∀ (n k i j : Nat) (t : List EntT), t.length ≤ 10000 → n < k → i ≤ j → j + n = t.length →
    ∃ (out : List EntT) (m c : Nat), L_delF_6 k (((), (), (i : Int), (j : Int), ()), (t, ())) = ⟨true, false, (0, m, c), (out, ()), ()⟩ ∧ (out.drop 0).take m = t.take i ++ (t.drop j).filter (fun e => e.2.2.1 != 0)
  | n, 0, i, j, t, hs, hk, hij, hn => by omega
  | 0, k + 1, i, j, t, hs, hk, hij, hn => by
    rw [L_delF_6_eq]
    have e : t.drop j = [] := List.drop_eq_nil_of_le (by omega)
    rw [dF (show ¬ j < t.length by omega), cff, e]
    have g1 : decide ((0 : Int) ≤ (i : Int)) = true := by simp
    have g2 : decide ((i : Int) ≤ ((t.length : Nat) : Int)) = true := decide_eq_true (by omega)
    have g3 : decide (((t.length : Nat) : Int) ≤ ((t.length : Nat) : Int)) = true := by simp
    have g4 : decide ((0 : Int) ≤ ((0 : Nat) : Int)) = true := rfl
    have g5 : decide ((((0 : Nat) : Nat) : Int) ≤ (i : Int)) = true := by simp
    simp only [Int.toNat_natCast]
    have hl : (t.take i ++ (List.replicate (t.length - i) ((0 : Int), (0 : Int), (0 : Int), ()) ++ t.drop (i + (t.length - i)))).length = t.length := by simp; omega
    refine ⟨t.take i ++ (List.replicate (t.length - i) ((0 : Int), (0 : Int), (0 : Int), ()) ++ t.drop (i + (t.length - i))), i, t.length, ?_, ?_⟩
    · simp only [hl, g1, g2, g3, g4, g5]
      rfl
    · rw [List.drop_zero, List.take_append_of_le_length (by simp; omega), List.take_take]; simp
  | n + 1, k + 1, i, j, t, hs, hk, hij, hn => by
    rw [L_delF_6_eq]
    have c : j < t.length := by omega
    rw [dT c, ctt]
    simp only [Int.toNat_natCast]
    have hb : Nat.blt j t.length = true := Nat.ble_eq_true_of_le c
    have hb2 : Nat.blt i t.length = true := Nat.ble_eq_true_of_le (show i < t.length by omega)
    have h0 : decide ((0 : Int) ≤ (j : Int)) = true := by simp
    have h1 : decide ((0 : Int) ≤ (i : Int)) = true := by simp
    have h2 : decide ((i : Int) < ((t.length : Nat) : Int)) = true := dT (by omega)
    rw [h0, hb, hb2, h1, h2, wN (show i ≤ 10000000 by omega), wN (show j ≤ 10000000 by omega)]
    have hd := drop1 ((0 : Int), (0 : Int), (0 : Int), ()) c
    by_cases z : (t.getD j ((0 : Int), (0 : Int), (0 : Int), ())).2.2.1 = 0
    · rw [show ((t.getD j ((0 : Int), (0 : Int), (0 : Int), ())).2.2.1 == 0) = true from by simpa using z]
      simp only [Bool.not_true, cff]
      obtain ⟨out, m, c', e, h⟩ := L_delF n k i (j + 1) t hs (by omega) (by omega) (by omega)
      refine ⟨out, m, c', rstep rfl e, ?_⟩
      rw [h, hd, List.filter_cons, show ((t.getD j ((0 : Int), (0 : Int), (0 : Int), ())).2.2.1 != 0) = false from by simpa using z]
      simp
    · rw [show ((t.getD j ((0 : Int), (0 : Int), (0 : Int), ())).2.2.1 == 0) = false from by simpa using z]
      simp only [Bool.not_false, ctt]
      obtain ⟨out, m, c', e, h⟩ := L_delF n k (i + 1) (j + 1) (t.set i (t.getD j ((0 : Int), (0 : Int), (0 : Int), ()))) (by simpa using hs) (by omega) (by omega) (by simp; omega)
      refine ⟨out, m, c', rstep rfl e, ?_⟩
      rw [h, hd, List.filter_cons, show ((t.getD j ((0 : Int), (0 : Int), (0 : Int), ())).2.2.1 != 0) = true from by simpa using z, if_pos rfl]
      rw [List.drop_set_of_lt (by omega)]
      have : (t.set i (t.getD j ((0 : Int), (0 : Int), (0 : Int), ()))).take (i + 1) = t.take i ++ [t.getD j ((0 : Int), (0 : Int), (0 : Int), ())] := by
        rw [List.take_add_one, List.take_set_of_le (by omega)]
        simp [List.getElem?_set, show i < t.length by omega]
      rw [this]; simp
theorem delF (s : List EntT) (hs : s.length ≤ 10000) : ∃ (out : List EntT) (m c : Nat), F_delF ((), (), ()) (s, ()) = ⟨true, false, (0, m, c), (out, ()), ()⟩ ∧ (out.drop 0).take m = s.filter (fun e => e.2.2.1 != 0) := by
  obtain ⟨r, e, h⟩ := L_indF (s := s) hs s.length (s.length + 2) 0 (by omega) (by omega)
  have hi : F_indF ((), (), ()) (s, ()) = ⟨true, false, r, ((), ()), ()⟩ := by
    rw [F_indF_eq]; exact e
  rw [F_delF_eq, hi]
  rcases h with ⟨h1, h2⟩ | ⟨j, h1, h2, h3, h4, h5⟩
  · subst h1
    rw [List.drop_zero] at h2
    refine ⟨s, s.length, s.length, ?_, ?_⟩
    · rfl
    · rw [h2]; simp
  · subst h1
    rw [List.drop_zero, Nat.sub_zero] at h5
    have : (((j : Nat) : Int) == -1) = false := by rw [beq_eq_false_iff_ne]; omega
    simp only [this, cff]
    rw [wN (show j ≤ 10000000 by omega)]
    obtain ⟨out, m, c', e', h'⟩ := L_delF (s.length - (j + 1)) (s.length + 2) j (j + 1) s hs (by omega) (by omega) (by omega)
    refine ⟨out, m, c', rstep rfl e', ?_⟩
    rw [h', h5, drop1 ((0 : Int), (0 : Int), (0 : Int), ()) h3, List.filter_cons, show ((s.getD j ((0 : Int), (0 : Int), (0 : Int), ())).2.2.1 != 0) = false from by simpa using h4]
    simp
end Go.Proofs.YtlflclfhldghbaaGreatDoor.Fs
end
section
set_option maxRecDepth 100000
namespace Go.Proofs.YtlflclfhldghbaaGreatDoor.Fs
open Go Go.Proofs.YtlflclfhldghbaaGreatDoor.Ls
noncomputable def C_chargeOff : Cx TT := cxB tbl68 Go.Proofs.Tryz.f145.ntmps [] [] [] [] []
noncomputable def k_chargeOff (a : g_chargeOff.args.ty) (h : tysO TT g_chargeOff.hp) : Nat := 0
noncomputable def F_chargeOff : g_chargeOff.args.ty → tysO TT g_chargeOff.hp → Res TT g_chargeOff := fun a h => bodyG C_chargeOff g_chargeOff Go.Proofs.Tryz.f145 [] (k_chargeOff a h) a h
theorem F_chargeOff_ok : FOK prog globs 145 g_chargeOff F_chargeOff :=
  bodyG_sound (cx := C_chargeOff) mix (cxB_ok tbl68_ok _ _ _ _ _ _) (f := 145) (fn := Go.Proofs.Tryz.f145) (by kernel_rfl) (by kernel_rfl) (by kernel_rfl) (by kernel_rfl) _
theorem F_chargeOff_eq (d : T82) (d_0 : List Int) (d_1 : List T123) (d_2 : List T53) : F_chargeOff ((), ()) (d, d_0, d_1, d_2, ()) =
  let x0 := (⟨false, false, (), ((((0 : Int), (0 : Int), (0 : Int), (0 : Int), (0 : Int), (0 : Int), (0 : Int), (0 : Int), (0 : Int), (0 : Int), (0 : Int), (0 : Int), (0 : Int), (0 : Int), (0 : Int), (0 : Int), (0 : Int), (), ()), ((0 : Int), ((0 : Int), (0 : Int), (0 : Int), (0 : Int), (0 : Int), (0 : Int), ()), (), (((0 : Int), (0 : Int), (0 : Int), (0 : Int), (0 : Int), (0 : Int), (0 : Int), (0 : Int), (0 : Int), (0 : Int), (0 : Int), (0 : Int), ()), ()), ((0 : Int), false, (0 : Int), (0 : Int), (0 : Int), (0 : Int), (0 : Int), (0 : Int), (0 : Int), (0 : Int), (0 : Int), (0 : Int), (0 : Int), (0 : Int), (0 : Int), ()), (0 : Int), (0 : Int), (0 : Int), ((0 : Int), (0 : Int), (0 : Int), (0 : Int), (0 : Int), ()), false, (0 : Int), (0 : Int), ()), ((0 : Int), (0 : Int), (0 : Int), (0 : Int), (0 : Int), ()), (), ()), (), (), (), ([] : List (Int × Int × Int × Int × Int × Bool × Unit)), ()), ((0 : Int), ())⟩ : Res TT g_chargeOff)
  let x1 := d.2.1.2.2.2.2.2.2.2.2.2
  let x2 := (((F_owed (d.2.1, ()) (d_1, ())).ret : Int × Int × Int × Unit).2).1
  let x3 := (((F_owed (d.2.1, ()) (d_1, ())).ret : Int × Int × Int × Unit).2).2
  let x4 := ((F_balance (d.2.1, (5 : Int), ()) (d_1, ())).ret : Int)
  let x5 := (if (x2 < x4) then x2 else x4)
  let x6 := (F_move ((), (), ()) ((d.1, (d.2.1.1, d.2.1.2.1, (), d.2.1.2.2.2.1, d.2.1.2.2.2.2.1, d.2.1.2.2.2.2.2.1, d.2.1.2.2.2.2.2.2.1, d.2.1.2.2.2.2.2.2.2.1, d.2.1.2.2.2.2.2.2.2.2.1, x1.1, (IntKind.i64.wrap ((IntKind.i64.wrap (((F_owed (d.2.1, ()) (d_1, ())).ret : Int × Int × Int × Unit).1 + x2)) + x3.1)), x1.2.2), d.2.2), d_0, d_1, d_2, [((5 : Int), (2 : Int), x5, ()), ((5 : Int), (7 : Int), (IntKind.i64.wrap (x4 - x5)), ()), ((9 : Int), (1 : Int), x3), ((9 : Int), (2 : Int), (IntKind.i64.wrap (x2 - x5)), ()), ((9 : Int), (3 : Int), ((F_owed (d.2.1, ()) (d_1, ())).ret : Int × Int × Int × Unit).1, ())], ()))
  let x7 := ((((F_owed (d.2.1, ()) (d_1, ())).ok && (F_balance (d.2.1, (5 : Int), ()) (d_1, ())).ok) && true) && x6.ok)
  let x8 := (F_forget ((), ()) ((x6.out : ((Int × Int × Int × Int × Int × Int × Int × Int × Int × Int × Int × Int × Int × Int × Int × Int × Int × Unit × Unit) × (Int × (Int × Int × Int × Int × Int × Int × Unit) × Unit × ((Int × Int × Int × Int × Int × Int × Int × Int × Int × Int × Int × Int × Unit) × Unit) × (Int × Bool × Int × Int × Int × Int × Int × Int × Int × Int × Int × Int × Int × Int × Int × Unit) × Int × Int × Int × (Int × Int × Int × Int × Int × Unit) × Bool × Int × Int × Unit) × (Int × Int × Int × Int × Int × Unit) × Unit × Unit) × Unit × Unit × Unit × Unit × Unit).1, d_0, d_1, d_2, ()))
  let x9 := (x8.out : ((Int × Int × Int × Int × Int × Int × Int × Int × Int × Int × Int × Int × Int × Int × Int × Int × Int × Unit × Unit) × (Int × (Int × Int × Int × Int × Int × Int × Unit) × Unit × ((Int × Int × Int × Int × Int × Int × Int × Int × Int × Int × Int × Int × Unit) × Unit) × (Int × Bool × Int × Int × Int × Int × Int × Int × Int × Int × Int × Int × Int × Int × Int × Unit) × Int × Int × Int × (Int × Int × Int × Int × Int × Unit) × Bool × Int × Int × Unit) × (Int × Int × Int × Int × Int × Unit) × Unit × Unit) × Unit × Unit × Unit × Unit).1
  let x10 := (F_note ((), (4 : Int), x9.2.1.2.2.2.2.2.2.2.2.2.2.1, ()) (x9, d_0, d_1, d_2, ()))
  (bif (F_owed (d.2.1, ()) (d_1, ())).pan then x0 else (bif (F_balance (d.2.1, (5 : Int), ()) (d_1, ())).pan then x0 else (bif x6.pan then ⟨x7, true, (), ((((0 : Int), (0 : Int), (0 : Int), (0 : Int), (0 : Int), (0 : Int), (0 : Int), (0 : Int), (0 : Int), (0 : Int), (0 : Int), (0 : Int), (0 : Int), (0 : Int), (0 : Int), (0 : Int), (0 : Int), (), ()), ((0 : Int), ((0 : Int), (0 : Int), (0 : Int), (0 : Int), (0 : Int), (0 : Int), ()), (), (((0 : Int), (0 : Int), (0 : Int), (0 : Int), (0 : Int), (0 : Int), (0 : Int), (0 : Int), (0 : Int), (0 : Int), (0 : Int), (0 : Int), ()), ()), ((0 : Int), false, (0 : Int), (0 : Int), (0 : Int), (0 : Int), (0 : Int), (0 : Int), (0 : Int), (0 : Int), (0 : Int), (0 : Int), (0 : Int), (0 : Int), (0 : Int), ()), (0 : Int), (0 : Int), (0 : Int), ((0 : Int), (0 : Int), (0 : Int), (0 : Int), (0 : Int), ()), false, (0 : Int), (0 : Int), ()), ((0 : Int), (0 : Int), (0 : Int), (0 : Int), (0 : Int), ()), (), ()), (), (), (), ([] : List (Int × Int × Int × Int × Int × Bool × Unit)), ()), x6.pv⟩ else ⟨((x7 && x8.ok) && x10.ok), false, (), x10.out, ((0 : Int), ())⟩))) := by kernel_rfl
noncomputable def tbl69 : List (Ent TT) := ⟨145, g_chargeOff, F_chargeOff⟩ :: tbl68
theorem tbl69_ok : TblOK prog globs tbl69 := tbl_cons (by kernel_rfl) F_chargeOff_ok tbl68_ok
noncomputable def C_act : Cx TT := cxB tbl69 Go.Proofs.Tryz.f83.ntmps [] [] [] [] []
noncomputable def k_act (a : g_act.args.ty) (h : tysO TT g_act.hp) : Nat := 0
noncomputable def F_act : g_act.args.ty → tysO TT g_act.hp → Res TT g_act := fun a h => bodyG C_act g_act Go.Proofs.Tryz.f83 [] (k_act a h) a h
theorem F_act_ok : FOK prog globs 83 g_act F_act :=
  bodyG_sound (cx := C_act) mix (cxB_ok tbl69_ok _ _ _ _ _ _) (f := 83) (fn := Go.Proofs.Tryz.f83) (by kernel_rfl) (by kernel_rfl) (by kernel_rfl) (by kernel_rfl) _
theorem F_act_eq (action : Int) (d : T82) (d_0 : List Int) (d_1 : List T123) (d_2 : List T53) : F_act ((), action, ()) (d, d_0, d_1, d_2, ()) =
  let x0 := (F_pastDue ((), ()) (d, d_0, d_1, d_2, ()))
  let x1 := x0.pan
  let x2 := x0.ok
  let x3 := (⟨x2, true, (), ((((0 : Int), (0 : Int), (0 : Int), (0 : Int), (0 : Int), (0 : Int), (0 : Int), (0 : Int), (0 : Int), (0 : Int), (0 : Int), (0 : Int), (0 : Int), (0 : Int), (0 : Int), (0 : Int), (0 : Int), (), ()), ((0 : Int), ((0 : Int), (0 : Int), (0 : Int), (0 : Int), (0 : Int), (0 : Int), ()), (), (((0 : Int), (0 : Int), (0 : Int), (0 : Int), (0 : Int), (0 : Int), (0 : Int), (0 : Int), (0 : Int), (0 : Int), (0 : Int), (0 : Int), ()), ()), ((0 : Int), false, (0 : Int), (0 : Int), (0 : Int), (0 : Int), (0 : Int), (0 : Int), (0 : Int), (0 : Int), (0 : Int), (0 : Int), (0 : Int), (0 : Int), (0 : Int), ()), (0 : Int), (0 : Int), (0 : Int), ((0 : Int), (0 : Int), (0 : Int), (0 : Int), (0 : Int), ()), false, (0 : Int), (0 : Int), ()), ((0 : Int), (0 : Int), (0 : Int), (0 : Int), (0 : Int), ()), (), ()), (), (), (), ([] : List (Int × Int × Int × Int × Int × Bool × Unit)), ()), x0.pv⟩ : Res TT g_act)
  let x4 := (F_note ((), (1 : Int), (x0.ret : Int), ()) (d, d_0, d_1, d_2, ()))
  let x5 := (F_note ((), (2 : Int), (x0.ret : Int), ()) (d, d_0, d_1, d_2, ()))
  let x6 := (F_note ((), (3 : Int), (x0.ret : Int), ()) (d, d_0, d_1, d_2, ()))
  let x7 := (F_balance (d.2.1, (5 : Int), ()) (d_1, ())).ok
  let x8 := (F_move ((), (), ()) (d, d_0, d_1, d_2, [((5 : Int), (7 : Int), ((F_balance (d.2.1, (5 : Int), ()) (d_1, ())).ret : Int), ())], ()))
  let x9 := (x7 && x8.ok)
  let x10 := (F_note ((), (6 : Int), (0 : Int), ()) ((x8.out : ((Int × Int × Int × Int × Int × Int × Int × Int × Int × Int × Int × Int × Int × Int × Int × Int × Int × Unit × Unit) × (Int × (Int × Int × Int × Int × Int × Int × Unit) × Unit × ((Int × Int × Int × Int × Int × Int × Int × Int × Int × Int × Int × Int × Unit) × Unit) × (Int × Bool × Int × Int × Int × Int × Int × Int × Int × Int × Int × Int × Int × Int × Int × Unit) × Int × Int × Int × (Int × Int × Int × Int × Int × Unit) × Bool × Int × Int × Unit) × (Int × Int × Int × Int × Int × Unit) × Unit × Unit) × Unit × Unit × Unit × Unit × Unit).1, d_0, d_1, d_2, ()))
  let x11 := (F_forget ((), ()) (d, d_0, d_1, d_2, ()))
  let x12 := (F_note ((), (8 : Int), (0 : Int), ()) ((x11.out : ((Int × Int × Int × Int × Int × Int × Int × Int × Int × Int × Int × Int × Int × Int × Int × Int × Int × Unit × Unit) × (Int × (Int × Int × Int × Int × Int × Int × Unit) × Unit × ((Int × Int × Int × Int × Int × Int × Int × Int × Int × Int × Int × Int × Unit) × Unit) × (Int × Bool × Int × Int × Int × Int × Int × Int × Int × Int × Int × Int × Int × Int × Int × Unit) × Int × Int × Int × (Int × Int × Int × Int × Int × Unit) × Bool × Int × Int × Unit) × (Int × Int × Int × Int × Int × Unit) × Unit × Unit) × Unit × Unit × Unit × Unit).1, d_0, d_1, d_2, ()))
  let x13 := (F_chargeOff ((), ()) (d, d_0, d_1, d_2, ()))
  let x14 := x13.ok
  (bif (action == 1) then (bif x1 then x3 else ⟨(x2 && x4.ok), false, (), x4.out, ((0 : Int), ())⟩) else (bif (action == 2) then (bif x1 then x3 else ⟨(x2 && x5.ok), false, (), x5.out, ((0 : Int), ())⟩) else (bif (action == 3) then (bif x1 then x3 else ⟨(x2 && x6.ok), false, (), x6.out, ((0 : Int), ())⟩) else (bif (action == 6) then (bif (F_balance (d.2.1, (5 : Int), ()) (d_1, ())).pan then ⟨x7, true, (), ((((0 : Int), (0 : Int), (0 : Int), (0 : Int), (0 : Int), (0 : Int), (0 : Int), (0 : Int), (0 : Int), (0 : Int), (0 : Int), (0 : Int), (0 : Int), (0 : Int), (0 : Int), (0 : Int), (0 : Int), (), ()), ((0 : Int), ((0 : Int), (0 : Int), (0 : Int), (0 : Int), (0 : Int), (0 : Int), ()), (), (((0 : Int), (0 : Int), (0 : Int), (0 : Int), (0 : Int), (0 : Int), (0 : Int), (0 : Int), (0 : Int), (0 : Int), (0 : Int), (0 : Int), ()), ()), ((0 : Int), false, (0 : Int), (0 : Int), (0 : Int), (0 : Int), (0 : Int), (0 : Int), (0 : Int), (0 : Int), (0 : Int), (0 : Int), (0 : Int), (0 : Int), (0 : Int), ()), (0 : Int), (0 : Int), (0 : Int), ((0 : Int), (0 : Int), (0 : Int), (0 : Int), (0 : Int), ()), false, (0 : Int), (0 : Int), ()), ((0 : Int), (0 : Int), (0 : Int), (0 : Int), (0 : Int), ()), (), ()), (), (), (), ([] : List (Int × Int × Int × Int × Int × Bool × Unit)), ()), ((F_balance (d.2.1, (5 : Int), ()) (d_1, ())).pv : Int × Unit)⟩ else (bif x8.pan then ⟨x9, true, (), ((((0 : Int), (0 : Int), (0 : Int), (0 : Int), (0 : Int), (0 : Int), (0 : Int), (0 : Int), (0 : Int), (0 : Int), (0 : Int), (0 : Int), (0 : Int), (0 : Int), (0 : Int), (0 : Int), (0 : Int), (), ()), ((0 : Int), ((0 : Int), (0 : Int), (0 : Int), (0 : Int), (0 : Int), (0 : Int), ()), (), (((0 : Int), (0 : Int), (0 : Int), (0 : Int), (0 : Int), (0 : Int), (0 : Int), (0 : Int), (0 : Int), (0 : Int), (0 : Int), (0 : Int), ()), ()), ((0 : Int), false, (0 : Int), (0 : Int), (0 : Int), (0 : Int), (0 : Int), (0 : Int), (0 : Int), (0 : Int), (0 : Int), (0 : Int), (0 : Int), (0 : Int), (0 : Int), ()), (0 : Int), (0 : Int), (0 : Int), ((0 : Int), (0 : Int), (0 : Int), (0 : Int), (0 : Int), ()), false, (0 : Int), (0 : Int), ()), ((0 : Int), (0 : Int), (0 : Int), (0 : Int), (0 : Int), ()), (), ()), (), (), (), ([] : List (Int × Int × Int × Int × Int × Bool × Unit)), ()), x8.pv⟩ else ⟨(x9 && x10.ok), false, (), x10.out, ((0 : Int), ())⟩)) else (bif (action == 8) then ⟨(x11.ok && x12.ok), false, (), x12.out, ((0 : Int), ())⟩ else (bif (action == 4) then (bif x13.pan then ⟨x14, true, (), ((((0 : Int), (0 : Int), (0 : Int), (0 : Int), (0 : Int), (0 : Int), (0 : Int), (0 : Int), (0 : Int), (0 : Int), (0 : Int), (0 : Int), (0 : Int), (0 : Int), (0 : Int), (0 : Int), (0 : Int), (), ()), ((0 : Int), ((0 : Int), (0 : Int), (0 : Int), (0 : Int), (0 : Int), (0 : Int), ()), (), (((0 : Int), (0 : Int), (0 : Int), (0 : Int), (0 : Int), (0 : Int), (0 : Int), (0 : Int), (0 : Int), (0 : Int), (0 : Int), (0 : Int), ()), ()), ((0 : Int), false, (0 : Int), (0 : Int), (0 : Int), (0 : Int), (0 : Int), (0 : Int), (0 : Int), (0 : Int), (0 : Int), (0 : Int), (0 : Int), (0 : Int), (0 : Int), ()), (0 : Int), (0 : Int), (0 : Int), ((0 : Int), (0 : Int), (0 : Int), (0 : Int), (0 : Int), ()), false, (0 : Int), (0 : Int), ()), ((0 : Int), (0 : Int), (0 : Int), (0 : Int), (0 : Int), ()), (), ()), (), (), (), ([] : List (Int × Int × Int × Int × Int × Bool × Unit)), ()), x13.pv⟩ else ⟨x14, false, (), x13.out, ((0 : Int), ())⟩) else ⟨true, false, (), (d, (), (), (), d_2, ()), ((0 : Int), ())⟩)))))) := by kernel_rfl
noncomputable def tbl70 : List (Ent TT) := ⟨83, g_act, F_act⟩ :: tbl69
theorem tbl70_ok : TblOK prog globs tbl70 := tbl_cons (by kernel_rfl) F_act_ok tbl69_ok
noncomputable def C_play : Cx TT := cxB tbl70 Go.Proofs.Tryz.f33.ntmps [(6, s_play_6)] [] [] [] []
noncomputable def k_play (a : g_play.args.ty) (h : tysO TT g_play.hp) : Nat := 100
noncomputable def F_play : g_play.args.ty → tysO TT g_play.hp → Res TT g_play := fun a h => bodyG C_play g_play Go.Proofs.Tryz.f33 [] (k_play a h) a h
theorem F_play_ok : FOK prog globs 33 g_play F_play :=
  bodyG_sound (cx := C_play) mix (cxB_ok tbl70_ok _ _ _ _ _ _) (f := 33) (fn := Go.Proofs.Tryz.f33) (by kernel_rfl) (by kernel_rfl) (by kernel_rfl) (by kernel_rfl) _
noncomputable def L_play_6 (k : Nat) (v : s_play_6.ty TT) : Res TT g_play := loopG C_play g_play Go.Proofs.Tryz.f33 [] k (todoF Go.Proofs.Tryz.f33 6) (SS.st s_play_6 0 v)
theorem F_play_eq (e : T86) (d : T82) (d_0 : List Int) (d_1 : List T123) (d_2 : List T53) : F_play ((), e, ()) (d, d_0, d_1, d_2, ()) =
  let x0 := (F_step (d.1, d.2.1.2.2.2.2.1, e, ()) (d_0, ()))
  let x1 := (x0.ret : (Int × Bool × Int × Int × Int × Int × Int × Int × Int × Int × Int × Int × Int × Int × Int × Unit) × Unit × Int × Unit)
  let x2 := x1.2.2
  let x3 := (x0.ok && true)
  let x4 := (x0.out : Unit × (List Int) × Unit).2
  let x5 := (L_play_6 (k_play ((), e, ()) (d, d_0, d_1, d_2, ())) (((), (), ((x4.1.length : Nat) : Int), (0 : Int), ()), (d.1, (d.2.1.1, d.2.1.2.1, (), d.2.1.2.2.2.1, x1.1, d.2.1.2.2.2.2.2), d.2.2), d_0, d_1, d_2, x4))
  (bif (x2.1 != 0) then ⟨x3, true, (), ((((0 : Int), (0 : Int), (0 : Int), (0 : Int), (0 : Int), (0 : Int), (0 : Int), (0 : Int), (0 : Int), (0 : Int), (0 : Int), (0 : Int), (0 : Int), (0 : Int), (0 : Int), (0 : Int), (0 : Int), (), ()), ((0 : Int), ((0 : Int), (0 : Int), (0 : Int), (0 : Int), (0 : Int), (0 : Int), ()), (), (((0 : Int), (0 : Int), (0 : Int), (0 : Int), (0 : Int), (0 : Int), (0 : Int), (0 : Int), (0 : Int), (0 : Int), (0 : Int), (0 : Int), ()), ()), ((0 : Int), false, (0 : Int), (0 : Int), (0 : Int), (0 : Int), (0 : Int), (0 : Int), (0 : Int), (0 : Int), (0 : Int), (0 : Int), (0 : Int), (0 : Int), (0 : Int), ()), (0 : Int), (0 : Int), (0 : Int), ((0 : Int), (0 : Int), (0 : Int), (0 : Int), (0 : Int), ()), false, (0 : Int), (0 : Int), ()), ((0 : Int), (0 : Int), (0 : Int), (0 : Int), (0 : Int), ()), (), ()), (), (), (), ([] : List (Int × Int × Int × Int × Int × Bool × Unit)), ()), x2⟩ else ⟨(x3 && x5.ok), x5.pan, x5.ret, x5.out, x5.pv⟩) := by kernel_rfl
theorem L_play_6_eq (k : Nat) (t32 : Int) (t33 : Int) (d : T82) (d_0 : List Int) (d_1 : List T123) (d_2 : List T53) (t31 : List Int) : L_play_6 (k + 1) (((), (), t32, t33, ()), (d, d_0, d_1, d_2, t31, ())) =
  let x0 := (F_act ((), (t31.getD t33.toNat (0 : Int)), ()) (d, d_0, d_1, d_2, ()))
  let x1 := (((decide (0 ≤ t33) && decide (t33 < ((t31.length : Nat) : Int))) && (Nat.blt t33.toNat t31.length)) && x0.ok)
  let x2 := (x0.out : ((Int × Int × Int × Int × Int × Int × Int × Int × Int × Int × Int × Int × Int × Int × Int × Int × Int × Unit × Unit) × (Int × (Int × Int × Int × Int × Int × Int × Unit) × Unit × ((Int × Int × Int × Int × Int × Int × Int × Int × Int × Int × Int × Int × Unit) × Unit) × (Int × Bool × Int × Int × Int × Int × Int × Int × Int × Int × Int × Int × Int × Int × Int × Unit) × Int × Int × Int × (Int × Int × Int × Int × Int × Unit) × Bool × Int × Int × Unit) × (Int × Int × Int × Int × Int × Unit) × Unit × Unit) × Unit × Unit × Unit × (List (Int × Int × Int × Int × Int × Bool × Unit)) × Unit)
  let x3 := (L_play_6 k (((), (), t32, (IntKind.i64.wrap (t33 + 1)), ()), x2.1, d_0, d_1, x2.2.2.2.2.1, t31, ()))
  (bif decide (t33 < t32) then (bif x0.pan then ⟨x1, true, (), ((((0 : Int), (0 : Int), (0 : Int), (0 : Int), (0 : Int), (0 : Int), (0 : Int), (0 : Int), (0 : Int), (0 : Int), (0 : Int), (0 : Int), (0 : Int), (0 : Int), (0 : Int), (0 : Int), (0 : Int), (), ()), ((0 : Int), ((0 : Int), (0 : Int), (0 : Int), (0 : Int), (0 : Int), (0 : Int), ()), (), (((0 : Int), (0 : Int), (0 : Int), (0 : Int), (0 : Int), (0 : Int), (0 : Int), (0 : Int), (0 : Int), (0 : Int), (0 : Int), (0 : Int), ()), ()), ((0 : Int), false, (0 : Int), (0 : Int), (0 : Int), (0 : Int), (0 : Int), (0 : Int), (0 : Int), (0 : Int), (0 : Int), (0 : Int), (0 : Int), (0 : Int), (0 : Int), ()), (0 : Int), (0 : Int), (0 : Int), ((0 : Int), (0 : Int), (0 : Int), (0 : Int), (0 : Int), ()), false, (0 : Int), (0 : Int), ()), ((0 : Int), (0 : Int), (0 : Int), (0 : Int), (0 : Int), ()), (), ()), (), (), (), ([] : List (Int × Int × Int × Int × Int × Bool × Unit)), ()), x0.pv⟩ else ⟨(x1 && x3.ok), x3.pan, x3.ret, x3.out, x3.pv⟩) else ⟨true, false, (), (d, (), (), (), d_2, ()), ((0 : Int), ())⟩) := by kernel_rfl
noncomputable def tbl71 : List (Ent TT) := ⟨33, g_play, F_play⟩ :: tbl70
theorem tbl71_ok : TblOK prog globs tbl71 := tbl_cons (by kernel_rfl) F_play_ok tbl70_ok
end Go.Proofs.YtlflclfhldghbaaGreatDoor.Fs
end
