
/- THE LAW: for all right games of at most 40 positions, and tables: what game.Solve returns is accepted, and has a row for each position that has one in any accepted table, with a rank that is not greater. No condition. -/
import Derived.Test.YtdjjhflhdhihcaaTabV
import Derived.Test.YtdjjhflhdhihcaaTabOw
import Derived.Carry
set_option linter.unusedSimpArgs false
set_option linter.unusedVariables false
namespace Go.Proofs.Ytdjjhflhdhihcaa
open Go.RowKit Go.IntWalk Go.ChangeShapes Go.WideShapes

set_option maxRecDepth 100000 in
theorem tableSolved_lifted (os : Os) (started : os.Started) (H : Type) (enc : TypeId × Value → H) :
    ReturnsInHanded {} Try.checked os 4 .any (Rows.tableSolvedSpec.pre6 enc Try.prog Try.f4 [] false) (Rows.tableSolvedSpec.post enc Try.prog Try.f4 false true false false) := by
  refine law_lifted (C := Try.checked) (tb := 4) H enc own started (by kernel_rfl) Try.func4 laidOut rfl Try.underlying4 rfl (by
      intro t ht
      have : t = 25 ∨ t = 26 := by
        rw [Try.params4] at ht; simpa using ht
      rcases this with rfl | rfl <;> exact ⟨by kernel_rfl, of_decide_eq_true (by kernel_rfl)⟩)
    (by
      intro ds hd
      match ds, hd with
      | [d1, d2], _ => rfl)
    (ChangeSpec.witness6 (enc := enc) (C := Try.checked) false ⟨#[], #[.agg #[.slice none 0 0, .slice none 0 0], .slice none 0 0], []⟩ 8 (by kernel_rfl) (by kernel_rfl) (by kernel_rfl) (by kernel_rfl)) ?_
  intro W base args ds p hval hA
  have hval : ∀ (j : Nat) t v, Try.f4.params[j]? = some t → args[j]? = some v → Value.okWide Try.prog W .any base t v := hval
  rw [Try.params4] at hA hval
  obtain ⟨v0, v1, d0, d1, p0, p1, rfl, rfl, rfl, h0, h1⟩ := trodAll_two hA
  obtain ⟨cs0, x0, rfl, r0⟩ := arg_struct Try.underlying25 opGame (hval 0 _ _ rfl rfl) h0
  obtain ⟨Ag0, Am0, cg0, cm0, rfl, g0⟩ := game_rep r0
  obtain ⟨A1, c1, l1, rfl, q1, z1, s1⟩ := arg_slice Try.underlying26 opRows (hval 1 _ _ rfl rfl) h1
  exact tsolved_any Ag0 Am0 A1 cg0 cm0 c1 x0 l1 W g0 (Nat.le_trans q1 z1) s1

theorem tableSolved_holds : Rows.TableSolvedSaid :=
  OpenClaim.holds_of_wide 4 Try.f4 rfl rfl rfl rfl rfl rfl rfl ⟨rfl, rfl, rfl, rfl, rfl⟩ rfl rfl rfl rfl rfl (by kernel_rfl) Try.func4 (by kernel_rfl)
    (of_decide_eq_true (by kernel_rfl)) (by unfold Func.isWrapper; first | (rw [if_pos (by decide +kernel)]; kernel_rfl) | (rw [if_neg (by decide +kernel)]; exact ⟨rfl, rfl⟩))
    (fun os started H enc _ => tableSolved_lifted os started H enc)
#print axioms tableSolved_holds
end Go.Proofs.Ytdjjhflhdhihcaa
