/- THE LAW: for all right floors of at most 40 cells, right minds, and acts: what a mind hears replaces its queue or changes nothing, and for all other inputs nothing is asked: RobotHears returns true for every input. No condition. -/
import Derived.Test.YtaaiaehffoadfaaRobO
import Derived.Test.YtaaiaehffoadfaaRobQ
set_option linter.unusedSimpArgs false
set_option linter.unusedVariables false
namespace Go.Proofs.Ytaaiaehffoadfaa
open Go.RowKit Go.IntWalk Go.ChangeShapes Go.WideShapes

set_option maxRecDepth 100000 in
theorem robotHears_lifted (os : Os) (started : os.Started) (H : Type) (enc : TypeId × Value → H) :
    ReturnsInHanded {} Try.checked os 4 .any (Rows.robotHearsSpec.pre6 enc Try.prog Try.f4 [] false) (Rows.robotHearsSpec.post enc Try.prog Try.f4 false true false false) := by
  refine law_lifted (C := Try.checked) (tb := 4) H enc own started (by kernel_rfl) Try.func4 laidOut rfl Try.underlying4 rfl (by
      intro t ht
      have : t = 24 ∨ t = 26 ∨ t = 22 := by
        rw [Try.params4] at ht; simpa using ht
      rcases this with rfl | rfl | rfl
      · exact ⟨by kernel_rfl, of_decide_eq_true (by kernel_rfl)⟩
      · exact ⟨by kernel_rfl, of_decide_eq_true (by kernel_rfl)⟩
      · exact ⟨by kernel_rfl, of_decide_eq_true (by kernel_rfl)⟩)
    (by
      intro ds hd
      match ds, hd with
      | [d1, d2, d3], _ => rfl)
    (ChangeSpec.witness6 (enc := enc) (C := Try.checked) false ⟨#[], #[.agg #[.int .i64 0, .int .i64 0, .int .i64 0, .slice none 0 0, .slice none 0 0], .agg #[.int .i64 0, .slice none 0 0], .slice none 0 0], []⟩ 8 (by kernel_rfl) (by kernel_rfl) (by kernel_rfl) (by kernel_rfl)) ?_
  intro W base args ds p hval hA
  have hval : ∀ (j : Nat) t v, Try.f4.params[j]? = some t → args[j]? = some v → Value.okWide Try.prog W .any base t v := hval
  rw [Try.params4] at hA hval
  obtain ⟨v0, v1, v2, d0, d1, d2, p0, p1, p2, rfl, rfl, rfl, h0, h1, h2⟩ := trodAll_three hA
  obtain ⟨cs0, x0, rfl, r0⟩ := arg_struct Try.underlying24 opFloor (hval 0 _ _ rfl rfl) h0
  obtain ⟨cs1, x1, rfl, r1⟩ := arg_struct Try.underlying26 opMind (hval 1 _ _ rfl rfl) h1
  obtain ⟨Ac, cc, acts, rfl, hc1, hc2, hs⟩ := arg_slice Try.underlying22 opInts (hval 2 _ _ rfl rfl) h2
  obtain ⟨Ak, Ao, ck, co, rfl, hl1, hl2, hs1, hs2⟩ := floor_rep r0
  obtain ⟨Aq, cq, rfl, hl3, hs3⟩ := mind_rep r1
  exact hears_any _ _ _ Ak Ao ck co _ _ _ Aq cq _ Ac cc acts W hl1 hl2 hl3 hc1 hc2 hs1 hs2 hs3 hs

theorem robotHears_holds : Rows.RobotHearsSaid :=
  OpenClaim.holds_of_wide 4 Try.f4 rfl rfl rfl rfl rfl rfl rfl ⟨rfl, rfl, rfl, rfl, rfl⟩ rfl rfl rfl rfl rfl (by kernel_rfl) Try.func4 (by kernel_rfl)
    (of_decide_eq_true (by kernel_rfl)) (by unfold Func.isWrapper; first | (rw [if_pos (by decide +kernel)]; kernel_rfl) | (rw [if_neg (by decide +kernel)]; exact ⟨rfl, rfl⟩))
    (fun os started H enc _ => robotHears_lifted os started H enc)
#print axioms robotHears_holds
end Go.Proofs.Ytaaiaehffoadfaa
