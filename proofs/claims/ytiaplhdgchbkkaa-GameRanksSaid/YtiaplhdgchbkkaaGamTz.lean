
/- THE LAW: for all right games of at most 200 positions the ranks are those that the moves give, and the rows are those of the positions with a rank, with the Act of the first good move; for all other inputs nothing is asked: GameRanks returns true for every input. No condition. -/
import Derived.Test.YtiaplhdgchbkkaaGamT
import Derived.Test.YtiaplhdgchbkkaaGamOw
import Derived.Carry
set_option linter.unusedSimpArgs false
set_option linter.unusedVariables false
namespace Go.Proofs.Ytiaplhdgchbkkaa
open Go.RowKit Go.IntWalk Go.ChangeShapes Go.WideShapes

set_option maxRecDepth 100000 in
theorem gameRanks_lifted (os : Os) (started : os.Started) (H : Type) (enc : TypeId × Value → H) :
    ReturnsInHanded {} Try.checked os 4 .any (Rows.gameRanksSpec.pre6 enc Try.prog Try.f4 [] false) (Rows.gameRanksSpec.post enc Try.prog Try.f4 false true false false) := by
  refine law_lifted (C := Try.checked) (tb := 4) H enc own started (by kernel_rfl) Try.func4 laidOut rfl Try.underlying4 rfl (by
      intro t ht
      have : t = 25 := by
        rw [Try.params4] at ht; simpa using ht
      subst this
      exact ⟨by kernel_rfl, of_decide_eq_true (by kernel_rfl)⟩)
    (by
      intro ds hd
      match ds, hd with
      | [d1], _ => rfl)
    (ChangeSpec.witness6 (enc := enc) (C := Try.checked) false ⟨#[], #[.agg #[.slice none 0 0, .slice none 0 0]], []⟩ 8 (by kernel_rfl) (by kernel_rfl) (by kernel_rfl) (by kernel_rfl)) ?_
  intro W base args ds p hval hA
  have hval : ∀ (j : Nat) t v, Try.f4.params[j]? = some t → args[j]? = some v → Value.okWide Try.prog W .any base t v := hval
  rw [Try.params4] at hA hval
  obtain ⟨v0, d0, rfl, rfl, h0⟩ := trodAll_one hA
  obtain ⟨cs0, x0, rfl, r0⟩ := arg_struct Try.underlying25 opGame (hval 0 _ _ rfl rfl) h0
  obtain ⟨Ag0, Am0, cg0, cm0, rfl, g0⟩ := game_rep r0
  exact (fun W Ag Am cg cm x h => granks_any Ag Am cg cm x W h) W Ag0 Am0 cg0 cm0 x0 g0

theorem gameRanks_holds : Rows.GameRanksSaid :=
  OpenClaim.holds_of_wide 4 Try.f4 rfl rfl rfl rfl rfl rfl rfl ⟨rfl, rfl, rfl, rfl, rfl⟩ rfl rfl rfl rfl rfl (by kernel_rfl) Try.func4 (by kernel_rfl)
    (of_decide_eq_true (by kernel_rfl)) (by unfold Func.isWrapper; first | (rw [if_pos (by decide +kernel)]; kernel_rfl) | (rw [if_neg (by decide +kernel)]; exact ⟨rfl, rfl⟩))
    (fun os started H enc _ => gameRanks_lifted os started H enc)
#print axioms gameRanks_holds
end Go.Proofs.Ytiaplhdgchbkkaa
