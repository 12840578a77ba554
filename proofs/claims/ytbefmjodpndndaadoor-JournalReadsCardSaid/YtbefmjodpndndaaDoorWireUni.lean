
/- Wire: the reader's calls, each in one contract: what is read, and where the reader stands then (failed or not). -/
import Derived.Test.YtbefmjodpndndaaDoorWireR
import Derived.Test.YtbefmjodpndndaaDoorWireL
set_option linter.unusedSimpArgs false
set_option linter.unusedVariables false
namespace Go.Proofs.YtbefmjodpndndaaDoor
open Go.RowKit Go.IntWalk

theorem num_uni (l : List UInt8) (bad : Bool) (hl : l.length ≤ 1000000000000) : ∃ (v : Int) (l' : List UInt8) (bad' : Bool), 0 ≤ v ∧ I64 v ∧ l'.length ≤ l.length ∧
    (∀ (b : Nat) (W : World), Rd W b l bad → Env W → Calls Tryd.prog 13 #[.pointer (some ⟨b, 0, none⟩)] W fun e w' => e = .returned (.int .i64 v) ∧ Rd w' b l' bad' ∧ W.grownBy w' (some b)) ∧
    ((numL l 59 0 = some (v, l') ∧ bad' = bad) ∨ (numL l 59 0 = none ∧ v = 0 ∧ l' = [] ∧ bad' = true)) := by
  cases hr : numL l 59 0 with
  | none =>
    refine ⟨0, [], true, by omega, by simp [I64], by simp, fun b W h he => ?_, .inr ⟨rfl, rfl, rfl, rfl⟩⟩
    have := num_any b l bad W h hl he
    rw [hr] at this
    exact this
  | some x =>
    obtain ⟨v, l'⟩ := x
    refine ⟨v, l', bad, (numL_shorter hr).2, numL_bd hr, (numL_shorter hr).1, fun b W h he => ?_, .inl ⟨rfl, rfl⟩⟩
    have := num_any b l bad W h hl he
    rw [hr] at this
    exact this
theorem grown_cell {w w' : World} {b : Nat} (h : w.grownBy w' (some b)) (k o : Nat) (hk : k < w.heap.size) (hne : k ≠ b) : w'.cell? ⟨k, o, none⟩ = w.cell? ⟨k, o, none⟩ :=
  cell_kept (p := ⟨k, o, none⟩) (h.block k hk (by intro e; injection e with e; exact hne e))
theorem bg {w0 w w' : World} {b : Nat} (h : Below w0.heap.size w0 w) (hg : w.grownBy w' (some b)) (hb : w0.heap.size ≤ b) : Below w0.heap.size w0 w' := h.grown hg h.size (fun k e => by injection e with e; omega)
end Go.Proofs.YtbefmjodpndndaaDoor
