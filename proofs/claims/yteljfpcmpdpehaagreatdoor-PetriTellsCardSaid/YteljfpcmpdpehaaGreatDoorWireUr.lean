
/- Wire: the reference reader's Int and Num, each in one contract for success and failure. -/
import Derived.Test.YteljfpcmpdpehaaGreatDoorWire5
import Derived.Test.YteljfpcmpdpehaaGreatDoorWireUni
set_option linter.unusedSimpArgs false
set_option linter.unusedVariables false
namespace Go.Proofs.YteljfpcmpdpehaaGreatDoor
open Go.RowKit Go.IntWalk

theorem int_ur (l : List UInt8) (bad : Bool) (hl : l.length ≤ 1000000000000) : ∃ (v : Int) (l' : List UInt8) (bad' : Bool), I64 v ∧ l'.length ≤ l.length ∧
    (∀ (b : Nat) (W : World), Rr W b l bad → Calls Tryz.prog 41 #[.pointer (some ⟨b, 0, none⟩)] W fun e w' => e = .returned (.int .i64 v) ∧ Rr w' b l' bad' ∧ W.grownBy w' (some b)) ∧
    ((fI l = some (v, l') ∧ bad' = bad) ∨ (fI l = none ∧ v = 0 ∧ l' = [] ∧ bad' = true)) := by
  cases hr : numL l 59 (-9223372036854775808) with
  | none =>
    refine ⟨0, [], true, by simp [I64], by simp, fun b W h => ?_, .inr ⟨hr, rfl, rfl, rfl⟩⟩
    have := intRr_any b l bad W h hl
    rw [hr] at this
    exact this
  | some x =>
    obtain ⟨v, l'⟩ := x
    refine ⟨v, l', bad, numL_bd hr, (numL_shorter hr).1, fun b W h => ?_, .inl ⟨hr, rfl⟩⟩
    have := intRr_any b l bad W h hl
    rw [hr] at this
    exact this
theorem num_ur (l : List UInt8) (bad : Bool) (hl : l.length ≤ 1000000000000) : ∃ (v : Int) (l' : List UInt8) (bad' : Bool), 0 ≤ v ∧ I64 v ∧ l'.length ≤ l.length ∧
    (∀ (b : Nat) (W : World), Rr W b l bad → Calls Tryz.prog 42 #[.pointer (some ⟨b, 0, none⟩)] W fun e w' => e = .returned (.int .i64 v) ∧ Rr w' b l' bad' ∧ W.grownBy w' (some b)) ∧
    ((numL l 59 0 = some (v, l') ∧ bad' = bad) ∨ (numL l 59 0 = none ∧ v = 0 ∧ l' = [] ∧ bad' = true)) := by
  cases hr : numL l 59 0 with
  | none =>
    refine ⟨0, [], true, by omega, by simp [I64], by simp, fun b W h => ?_, .inr ⟨rfl, rfl, rfl, rfl⟩⟩
    have := numRr_any b l bad W h hl
    rw [hr] at this
    exact this
  | some x =>
    obtain ⟨v, l'⟩ := x
    refine ⟨v, l', bad, (numL_shorter hr).2, numL_bd hr, (numL_shorter hr).1, fun b W h => ?_, .inl ⟨rfl, rfl⟩⟩
    have := numRr_any b l bad W h hl
    rw [hr] at this
    exact this
end Go.Proofs.YteljfpcmpdpehaaGreatDoor
