
/- THE LAW: for all two right games of at most 60 positions: both together, the second one's positions numbered on, have the ranks of the one and then those of the other, and the rows likewise. No condition. -/
import Derived.Test.YtiaplhdgchbkkaaGamAb
import Derived.Test.YtiaplhdgchbkkaaGamOw
import Derived.Carry
set_option linter.unusedSimpArgs false
set_option linter.unusedVariables false
namespace Go.Proofs.Ytiaplhdgchbkkaa
open Go.RowKit Go.IntWalk Go.ChangeShapes Go.WideShapes

set_option maxRecDepth 100000 in
theorem gameApart_lifted (os : Os) (started : os.Started) (H : Type) (enc : TypeId × Value → H) :
    ReturnsInHanded {} Try.checked os 8 .any (Rows.gameApartSpec.pre6 enc Try.prog Try.f8 [] false) (Rows.gameApartSpec.post enc Try.prog Try.f8 false true false false) := by
  refine law_lifted (C := Try.checked) (tb := 4) H enc own started (by kernel_rfl) Try.func8 laidOut rfl Try.underlying4 rfl (by
      intro t ht
      have : t = 25 := by
        rw [Try.params8] at ht; simpa using ht
      subst this
      exact ⟨by kernel_rfl, of_decide_eq_true (by kernel_rfl)⟩)
    (by
      intro ds hd
      match ds, hd with
      | [d1, d2], _ => rfl)
    (ChangeSpec.witness6 (enc := enc) (C := Try.checked) false ⟨#[], #[.agg #[.slice none 0 0, .slice none 0 0], .agg #[.slice none 0 0, .slice none 0 0]], []⟩ 8 (by kernel_rfl) (by kernel_rfl) (by kernel_rfl) (by kernel_rfl)) ?_
  intro W base args ds p hval hA
  have hval : ∀ (j : Nat) t v, Try.f8.params[j]? = some t → args[j]? = some v → Value.okWide Try.prog W .any base t v := hval
  rw [Try.params8] at hA hval
  obtain ⟨v0, v1, d0, d1, p0, p1, rfl, rfl, rfl, h0, h1⟩ := trodAll_two hA
  obtain ⟨cs0, x0, rfl, r0⟩ := arg_struct Try.underlying25 opGame (hval 0 _ _ rfl rfl) h0
  obtain ⟨Ag0, Am0, cg0, cm0, rfl, g0⟩ := game_rep r0
  obtain ⟨cs1, x1, rfl, r1⟩ := arg_struct Try.underlying25 opGame (hval 1 _ _ rfl rfl) h1
  obtain ⟨Ag1, Am1, cg1, cm1, rfl, g1⟩ := game_rep r1
  exact gapart_any W Ag0 Am0 cg0 cm0 x0 g0 Ag1 Am1 cg1 cm1 x1 g1

theorem gameApart_holds : Rows.GameApartSaid :=
  OpenClaim.holds_of_wide 8 Try.f8 rfl rfl rfl rfl rfl rfl rfl ⟨rfl, rfl, rfl, rfl, rfl⟩ rfl rfl rfl rfl rfl (by kernel_rfl) Try.func8 (by kernel_rfl)
    (of_decide_eq_true (by kernel_rfl)) (by unfold Func.isWrapper; first | (rw [if_pos (by decide +kernel)]; kernel_rfl) | (rw [if_neg (by decide +kernel)]; exact ⟨rfl, rfl⟩))
    (fun os started H enc _ => gameApart_lifted os started H enc)
#print axioms gameApart_holds
end Go.Proofs.Ytiaplhdgchbkkaa
