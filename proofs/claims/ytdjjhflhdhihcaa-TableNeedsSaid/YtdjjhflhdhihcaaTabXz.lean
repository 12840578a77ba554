
/- THE LAW: for all right games of at most 40 positions, accepted tables, positions, and at most 60 answers: what is needed for a position is a part of the table, and is accepted; followed from the position, it leads where the whole table leads; and nothing less is enough. No condition. -/
import Derived.Test.YtdjjhflhdhihcaaTabX
import Derived.Test.YtdjjhflhdhihcaaTabOw5
import Derived.Carry
set_option linter.unusedSimpArgs false
set_option linter.unusedVariables false
namespace Go.Proofs.Ytdjjhflhdhihcaa
open Go.RowKit Go.IntWalk Go.ChangeShapes Go.WideShapes

set_option maxRecDepth 100000 in
theorem tableNeeds_lifted (os : Os) (started : os.Started) (H : Type) (enc : TypeId × Value → H) :
    ReturnsInHanded {} Try.checked os 5 .any (Rows.tableNeedsSpec.pre6 enc Try.prog Try.f5 [] false) (Rows.tableNeedsSpec.post enc Try.prog Try.f5 false true false false) := by
  refine law_lifted (C := Try.checked) (tb := 4) H enc own started (by kernel_rfl) Try.func5 laidOut rfl Try.underlying4 rfl (by
      intro t ht
      have : t = 25 ∨ t = 26 ∨ t = 3 ∨ t = 34 ∨ t = 3 := by
        rw [Try.params5] at ht; simpa using ht
      rcases this with rfl | rfl | rfl | rfl | rfl <;> exact ⟨by kernel_rfl, of_decide_eq_true (by kernel_rfl)⟩)
    (by
      intro ds hd
      match ds, hd with
      | [d1, d2, d3, d4, d5], _ => rfl)
    (ChangeSpec.witness6 (enc := enc) (C := Try.checked) false ⟨#[], #[.agg #[.slice none 0 0, .slice none 0 0], .slice none 0 0, .int .i64 0, .slice none 0 0, .int .i64 0], []⟩ 8 (by kernel_rfl) (by kernel_rfl) (by kernel_rfl) (by kernel_rfl)) ?_
  intro W base args ds p hval hA
  have hval : ∀ (j : Nat) t v, Try.f5.params[j]? = some t → args[j]? = some v → Value.okWide Try.prog W .any base t v := hval
  rw [Try.params5] at hA hval
  obtain ⟨v0, v1, v2, v3, v4, d0, d1, d2, d3, d4, p0, p1, p2, p3, p4, rfl, rfl, rfl, h0, h1, h2, h3, h4⟩ := trodAll_five hA
  obtain ⟨cs0, x0, rfl, r0⟩ := arg_struct Try.underlying25 opGame (hval 0 _ _ rfl rfl) h0
  obtain ⟨Ag0, Am0, cg0, cm0, rfl, g0⟩ := game_rep r0
  obtain ⟨A1, c1, l1, rfl, q1, z1, s1⟩ := arg_slice Try.underlying26 opRows (hval 1 _ _ rfl rfl) h1
  obtain ⟨n2, rfl, i2⟩ := arg_int Try.underlying3 (hval 2 _ _ rfl rfl) h2
  obtain ⟨A3, c3, l3, rfl, q3, z3, s3⟩ := arg_slice Try.underlying34 opInts (hval 3 _ _ rfl rfl) h3
  obtain ⟨n4, rfl, i4⟩ := arg_int Try.underlying3 (hval 4 _ _ rfl rfl) h4
  exact tneeds_any Ag0 Am0 A1 A3 cg0 cm0 c1 c3 x0 l1 n2 n4 l3 W g0 (Nat.le_trans q1 z1) s1 (Nat.le_trans q3 z3) s3 i2

theorem tableNeeds_holds : Rows.TableNeedsSaid :=
  OpenClaim.holds_of_wide 5 Try.f5 rfl rfl rfl rfl rfl rfl rfl ⟨rfl, rfl, rfl, rfl, rfl⟩ rfl rfl rfl rfl rfl (by kernel_rfl) Try.func5 (by kernel_rfl)
    (of_decide_eq_true (by kernel_rfl)) (by unfold Func.isWrapper; first | (rw [if_pos (by decide +kernel)]; kernel_rfl) | (rw [if_neg (by decide +kernel)]; exact ⟨rfl, rfl⟩))
    (fun os started H enc _ => tableNeeds_lifted os started H enc)
#print axioms tableNeeds_holds
end Go.Proofs.Ytdjjhflhdhihcaa
