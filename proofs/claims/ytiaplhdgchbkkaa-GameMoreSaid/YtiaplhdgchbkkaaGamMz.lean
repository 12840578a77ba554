
/- THE LAW: for all right games of at most 60 positions: one goal more, or one move more, and no rank is greater; the first move gone, or one answer more, and none is less. No condition. -/
import Derived.Test.YtiaplhdgchbkkaaGamMd
import Derived.Test.YtiaplhdgchbkkaaGamOw
import Derived.Carry
set_option linter.unusedSimpArgs false
set_option linter.unusedVariables false
namespace Go.Proofs.Ytiaplhdgchbkkaa
open Go.RowKit Go.IntWalk Go.ChangeShapes Go.WideShapes

set_option maxRecDepth 100000 in
theorem gameMore_lifted (os : Os) (started : os.Started) (H : Type) (enc : TypeId × Value → H) :
    ReturnsInHanded {} Try.checked os 7 .any (Rows.gameMoreSpec.pre6 enc Try.prog Try.f7 [] false) (Rows.gameMoreSpec.post enc Try.prog Try.f7 false true false false) := by
  refine law_lifted (C := Try.checked) (tb := 4) H enc own started (by kernel_rfl) Try.func7 laidOut rfl Try.underlying4 rfl (by
      intro t ht
      have : t = 25 ∨ t = 3 := by
        rw [Try.params7] at ht; simpa using ht
      rcases this with rfl | rfl <;> exact ⟨by kernel_rfl, of_decide_eq_true (by kernel_rfl)⟩)
    (by
      intro ds hd
      match ds, hd with
      | [d1, d2, d3], _ => rfl)
    (ChangeSpec.witness6 (enc := enc) (C := Try.checked) false ⟨#[], #[.agg #[.slice none 0 0, .slice none 0 0], .int .i64 0, .int .i64 0], []⟩ 8 (by kernel_rfl) (by kernel_rfl) (by kernel_rfl) (by kernel_rfl)) ?_
  intro W base args ds p hval hA
  have hval : ∀ (j : Nat) t v, Try.f7.params[j]? = some t → args[j]? = some v → Value.okWide Try.prog W .any base t v := hval
  rw [Try.params7] at hA hval
  obtain ⟨v0, v1, v2, d0, d1, d2, p0, p1, p2, rfl, rfl, rfl, h0, h1, h2⟩ := trodAll_three hA
  obtain ⟨cs0, x0, rfl, r0⟩ := arg_struct Try.underlying25 opGame (hval 0 _ _ rfl rfl) h0
  obtain ⟨Ag0, Am0, cg0, cm0, rfl, g0⟩ := game_rep r0
  obtain ⟨n1, rfl, i1⟩ := arg_int Try.underlying3 (hval 1 _ _ rfl rfl) h1
  obtain ⟨n2, rfl, i2⟩ := arg_int Try.underlying3 (hval 2 _ _ rfl rfl) h2
  exact gmore_any W Ag0 Am0 cg0 cm0 x0 g0 n1 i1 n2 i2

theorem gameMore_holds : Rows.GameMoreSaid :=
  OpenClaim.holds_of_wide 7 Try.f7 rfl rfl rfl rfl rfl rfl rfl ⟨rfl, rfl, rfl, rfl, rfl⟩ rfl rfl rfl rfl rfl (by kernel_rfl) Try.func7 (by kernel_rfl)
    (of_decide_eq_true (by kernel_rfl)) (by unfold Func.isWrapper; first | (rw [if_pos (by decide +kernel)]; kernel_rfl) | (rw [if_neg (by decide +kernel)]; exact ⟨rfl, rfl⟩))
    (fun os started H enc _ => gameMore_lifted os started H enc)
#print axioms gameMore_holds
end Go.Proofs.Ytiaplhdgchbkkaa
