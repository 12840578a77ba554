
/- Table: parts of a list of rows, read. -/
import Derived.Test.YtdjjhflhdhihcaaTabU
set_option linter.unusedSimpArgs false
set_option linter.unusedVariables false
namespace Go.Proofs.Ytdjjhflhdhihcaa
open Go.RowKit Go.IntWalk Go.Shelf

theorem slr_take {T : Type} [Rep T] {w : World} {B : Nat} {A : Option Addr} {l : List T} (h : SlR w B A l) (n : Nat) : SlR w B A (l.take n) := by
  intro k x hx
  rw [List.getElem?_take] at hx
  split at hx
  · exact h k x hx
  · cases hx
theorem slr_drop {T : Type} [Rep T] {w : World} {B b off : Nat} {l : List T} (h : SlR w B (some ⟨b, off, none⟩) l) (n : Nat) : SlR w B (some ⟨b, off + n * Rep.size T, none⟩) (l.drop n) := by
  intro k x hx
  rw [List.getElem?_drop] at hx
  obtain ⟨b', off', es, hA, hb, hs, hc, hr⟩ := h (n + k) x hx
  injection hA with hA
  injection hA with e1 e2 _
  subst e1 e2
  refine ⟨b, off + n * Rep.size T, es, rfl, hb, hs, fun j u hu => ?_, hr⟩
  have := hc j u hu
  rw [Nat.add_mul, ← Nat.add_assoc] at this
  exact this
/-- What lies behind the i-th row: where no room is left the address stays. -/
theorem slr_last {w : World} {B b off c i : Nat} {rows : List Row} (h : SlR w B (some ⟨b, off, none⟩) rows) (hc : rows.length ≤ c) (hi : i < rows.length) : SlR w B (if c = i + 1 then some ⟨b, off, none⟩ else some ⟨b, off + (i + 1) * 3, none⟩) (rows.drop (i + 1)) := by
  by_cases e : c = i + 1
  · rw [List.drop_of_length_le (by omega)]
    exact SlR.nil
  · rw [if_neg e]
    exact slr_drop h (i + 1)
def BoolIs (v : Value) (P : Prop) : Prop := ∃ b : Bool, v = .bool b ∧ (b = true → P)
theorem rows_ok {w : World} {B : Nat} {A : Option Addr} {rows : List Row} (h : SlR w B A rows) : ∀ x ∈ rows, rwRK.ok x := rwRK.oks h
theorem own_empty (w : World) : rwRK.Own (w.alloc (Obj.cells #[] 33)) w.heap.size (.slice (some ⟨w.heap.size, 0, none⟩) 0 0) [] :=
  RK.Own.fresh (R := rwRK) (l := []) (base := w.heap.size) (show Blk (w.alloc (Obj.cells #[] 33)) w.heap.size rwRK.e (rwRK.all []).toArray from Blk.new _ _ _) (Nat.le_refl _) (by simp)
end Go.Proofs.Ytdjjhflhdhihcaa
