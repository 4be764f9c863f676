/- Contracts of this session in the form that the written walks take: CheckDigit and Valid. Condition: the table of powers of ten is as laid (CheckDigit), the text within the reach (Valid). -/
import Derived.Test.YtkjdmbbaacjpmaaDoorWalkCheck
namespace Go.Proofs.YtkjdmbbaacjpmaaDoor
open Go.RowKit Go.Proofs.YtkjdmbbaacjpmaaDoorW.PrintWords Go.Proofs.YtkjdmbbaacjpmaaDoorW.PrintLast

/-- the listed tables are as laid -/
def Tab (w : World) : Prop := Digits.Tab w

theorem var_below {P : Program} {name : String} {w W : World} {cs : Array Value} (h : w.var? P name = some cs) (hb : Below w.heap.size w W) : W.var? P name = some cs := by
  unfold World.var? at h ⊢
  cases hg : P.globalNamed name with
  | none => rw [hg] at h; exact h
  | some g =>
    simp only [hg, Option.bind_some] at h ⊢
    have hl : g < w.heap.size := by
      rcases Nat.lt_or_ge g w.heap.size with hl | hl
      · exact hl
      · simp [Array.getElem?_eq_none hl] at h
    rw [hb.block g hl]
    exact h
theorem tab_below {w W : World} (h : Tab w) (hb : Below w.heap.size w W) : Tab W := var_below h hb
theorem tab_auto {w W : World} (h : Aside0 (Tab w)) (hb : Below w.heap.size w W) : Aside0 (Tab W) := ⟨tab_below h.out hb⟩

def lockbox_CheckDigit.f (a0 : Int) : Option (Int × Bool) := some (Digits.digitOf a0, Digits.okN a0)
theorem lockbox_CheckDigit.calls (a0 : Int) (r1 : Int) (r2 : Bool) (w : World) (h : lockbox_CheckDigit.f a0 = some (r1, r2)) (HT : Aside0 (Tab w) := by first | assumption | exact tab_auto (by assumption) (by repeat (first | (with_reducible first | (with_reducible exact Aside0.out (by assumption)) | apply below_alloc | apply pw_below_drewN | apply below_drew1)))) :
    Calls Tryd.prog 9 #[.int .i64 a0] w fun e w' => e = .returned (.tuple #[.int .i64 r1, .bool r2]) ∧ Below w.heap.size w w' := by
  unfold lockbox_CheckDigit.f at h
  simp only [Option.some.injEq, Prod.mk.injEq] at h
  obtain ⟨rfl, rfl⟩ := h
  exact Digits.check_calls a0 w HT.out

def lockbox_Valid.f (a0 : ByteArray) : Option Bool := if a0.size ≤ 140737488351232 then some (Digits.validB a0) else none
theorem lockbox_Valid.calls (a0 : ByteArray) (r : Bool) (w : World) (h : lockbox_Valid.f a0 = some r) :
    Calls Tryd.prog 11 #[.string a0] w fun e w' => e = .returned (.bool r) ∧ Drawn0 w w' := by
  unfold lockbox_Valid.f at h
  split at h
  · obtain rfl := Option.some.inj h
    exact Digits.valid_calls a0 ‹_› w
  · cases h
end Go.Proofs.YtkjdmbbaacjpmaaDoor
