
/- THE LAW: for all right games of at most 60 positions, positions with a rank, and choices of the other side, whoever takes the Acts of the rows is in a goal after at most as many rounds as the rank says, with lesser ranks on the way, and with the answers of Answer after exactly that many; for all other inputs nothing is asked: GameForces returns true for every input. No condition. -/
import Derived.Test.YtiaplhdgchbkkaaGamZ
import Derived.Test.YtiaplhdgchbkkaaGamOw
import Derived.Carry
set_option linter.unusedSimpArgs false
set_option linter.unusedVariables false
namespace Go.Proofs.Ytiaplhdgchbkkaa
open Go.RowKit Go.IntWalk Go.ChangeShapes Go.WideShapes

set_option maxRecDepth 100000 in
theorem gameForces_lifted (os : Os) (started : os.Started) (H : Type) (enc : TypeId × Value → H) :
    ReturnsInHanded {} Try.checked os 5 .any (Rows.gameForcesSpec.pre6 enc Try.prog Try.f5 [] false) (Rows.gameForcesSpec.post enc Try.prog Try.f5 false true false false) := by
  refine law_lifted (C := Try.checked) (tb := 4) H enc own started (by kernel_rfl) Try.func5 laidOut rfl Try.underlying4 rfl (by
      intro t ht
      have : t = 25 ∨ t = 3 ∨ t = 29 ∨ t = 4 := by
        rw [Try.params5] at ht; simpa using ht
      rcases this with rfl | rfl | rfl | rfl <;> exact ⟨by kernel_rfl, of_decide_eq_true (by kernel_rfl)⟩)
    (by
      intro ds hd
      match ds, hd with
      | [d1, d2, d3, d4], _ => rfl)
    (ChangeSpec.witness6 (enc := enc) (C := Try.checked) false ⟨#[], #[.agg #[.slice none 0 0, .slice none 0 0], .int .i64 0, .slice none 0 0, .bool false], []⟩ 8 (by kernel_rfl) (by kernel_rfl) (by kernel_rfl) (by kernel_rfl)) ?_
  intro W base args ds p hval hA
  have hval : ∀ (j : Nat) t v, Try.f5.params[j]? = some t → args[j]? = some v → Value.okWide Try.prog W .any base t v := hval
  rw [Try.params5] at hA hval
  obtain ⟨v0, v1, v2, v3, d0, d1, d2, d3, p0, p1, p2, p3, rfl, rfl, rfl, h0, h1, h2, h3⟩ := trodAll_four hA
  obtain ⟨cs0, x0, rfl, r0⟩ := arg_struct Try.underlying25 opGame (hval 0 _ _ rfl rfl) h0
  obtain ⟨Ag0, Am0, cg0, cm0, rfl, g0⟩ := game_rep r0
  obtain ⟨n1, rfl, i1⟩ := arg_int Try.underlying3 (hval 1 _ _ rfl rfl) h1
  obtain ⟨A2, c2, l2, rfl, q2, z2, s2⟩ := arg_slice Try.underlying29 opInts (hval 2 _ _ rfl rfl) h2
  obtain ⟨b3, rfl⟩ := arg_bool Try.underlying4 (hval 3 _ _ rfl rfl)
  exact (fun W Ag Am cg cm x h n hi A c l hl hs b => gforces_any W Ag Am cg cm x h n hi A c l hl hs b) W Ag0 Am0 cg0 cm0 x0 g0 n1 i1 A2 c2 l2 (Nat.le_trans q2 z2) s2 b3

theorem gameForces_holds : Rows.GameForcesSaid :=
  OpenClaim.holds_of_wide 5 Try.f5 rfl rfl rfl rfl rfl rfl rfl ⟨rfl, rfl, rfl, rfl, rfl⟩ rfl rfl rfl rfl rfl (by kernel_rfl) Try.func5 (by kernel_rfl)
    (of_decide_eq_true (by kernel_rfl)) (by unfold Func.isWrapper; first | (rw [if_pos (by decide +kernel)]; kernel_rfl) | (rw [if_neg (by decide +kernel)]; exact ⟨rfl, rfl⟩))
    (fun os started H enc _ => gameForces_lifted os started H enc)
#print axioms gameForces_holds
end Go.Proofs.Ytiaplhdgchbkkaa
