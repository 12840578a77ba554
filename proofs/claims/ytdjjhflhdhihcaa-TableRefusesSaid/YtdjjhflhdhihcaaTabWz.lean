
/- THE LAW: for all right games of at most 40 positions, accepted tables, and rows of it: with a lesser rank than the ones to which its move leads allow, with a rank of a goal that is not 0, without a row to which a move leads, or with two rows turned, the table is refused, and the row that is named is one that is not good, or not in order. No condition. -/
import Derived.Test.YtdjjhflhdhihcaaTabW
import Derived.Test.YtdjjhflhdhihcaaTabOw
import Derived.Carry
set_option linter.unusedSimpArgs false
set_option linter.unusedVariables false
namespace Go.Proofs.Ytdjjhflhdhihcaa
open Go.RowKit Go.IntWalk Go.ChangeShapes Go.WideShapes

set_option maxRecDepth 100000 in
theorem tableRefuses_lifted (os : Os) (started : os.Started) (H : Type) (enc : TypeId × Value → H) :
    ReturnsInHanded {} Try.checked os 3 .any (Rows.tableRefusesSpec.pre6 enc Try.prog Try.f3 [] false) (Rows.tableRefusesSpec.post enc Try.prog Try.f3 false true false false) := by
  refine law_lifted (C := Try.checked) (tb := 4) H enc own started (by kernel_rfl) Try.func3 laidOut rfl Try.underlying4 rfl (by
      intro t ht
      have : t = 25 ∨ t = 26 ∨ t = 3 := by
        rw [Try.params3] at ht; simpa using ht
      rcases this with rfl | rfl | rfl <;> exact ⟨by kernel_rfl, of_decide_eq_true (by kernel_rfl)⟩)
    (by
      intro ds hd
      match ds, hd with
      | [d1, d2, d3, d4], _ => rfl)
    (ChangeSpec.witness6 (enc := enc) (C := Try.checked) false ⟨#[], #[.agg #[.slice none 0 0, .slice none 0 0], .slice none 0 0, .int .i64 0, .int .i64 0], []⟩ 8 (by kernel_rfl) (by kernel_rfl) (by kernel_rfl) (by kernel_rfl)) ?_
  intro W base args ds p hval hA
  have hval : ∀ (j : Nat) t v, Try.f3.params[j]? = some t → args[j]? = some v → Value.okWide Try.prog W .any base t v := hval
  rw [Try.params3] at hA hval
  obtain ⟨v0, v1, v2, v3, d0, d1, d2, d3, p0, p1, p2, p3, rfl, rfl, rfl, h0, h1, h2, h3⟩ := trodAll_four hA
  obtain ⟨cs0, x0, rfl, r0⟩ := arg_struct Try.underlying25 opGame (hval 0 _ _ rfl rfl) h0
  obtain ⟨Ag0, Am0, cg0, cm0, rfl, g0⟩ := game_rep r0
  obtain ⟨A1, c1, l1, rfl, q1, z1, s1⟩ := arg_slice Try.underlying26 opRows (hval 1 _ _ rfl rfl) h1
  obtain ⟨n2, rfl, i2⟩ := arg_int Try.underlying3 (hval 2 _ _ rfl rfl) h2
  obtain ⟨n3, rfl, i3⟩ := arg_int Try.underlying3 (hval 3 _ _ rfl rfl) h3
  exact trefuses_any Ag0 Am0 A1 cg0 cm0 c1 x0 l1 n2 n3 W g0 (Nat.le_trans q1 z1) q1 z1 s1 i3

theorem tableRefuses_holds : Rows.TableRefusesSaid :=
  OpenClaim.holds_of_wide 3 Try.f3 rfl rfl rfl rfl rfl rfl rfl ⟨rfl, rfl, rfl, rfl, rfl⟩ rfl rfl rfl rfl rfl (by kernel_rfl) Try.func3 (by kernel_rfl)
    (of_decide_eq_true (by kernel_rfl)) (by unfold Func.isWrapper; first | (rw [if_pos (by decide +kernel)]; kernel_rfl) | (rw [if_neg (by decide +kernel)]; exact ⟨rfl, rfl⟩))
    (fun os started H enc _ => tableRefuses_lifted os started H enc)
#print axioms tableRefuses_holds
end Go.Proofs.Ytdjjhflhdhihcaa
