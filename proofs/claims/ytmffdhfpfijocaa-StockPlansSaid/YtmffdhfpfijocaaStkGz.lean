
/- THE LAW: for all right stocks with at most 20 kinds, lots and boxes each, and at most 12 right wants: there is a plan exactly if for each kind and tick the wants that need a later expiry ask for at most what there is; then each want gets its count from boxes that fit, each at most once, and what is left is what Pick says. No condition. -/
import Derived.Test.YtmffdhfpfijocaaStkGc
import Derived.Test.YtmffdhfpfijocaaStkOw
import Derived.Carry
set_option linter.unusedSimpArgs false
set_option linter.unusedVariables false
namespace Go.Proofs.Ytmffdhfpfijocaa
open Go.RowKit Go.IntWalk Go.ChangeShapes Go.WideShapes

set_option maxRecDepth 100000 in
theorem stockPlans_lifted (os : Os) (started : os.Started) (H : Type) (enc : TypeId × Value → H) :
    ReturnsInHanded {} Try.checked os 4 .any (Rows.stockPlansSpec.pre6 enc Try.prog Try.f4 [] false) (Rows.stockPlansSpec.post enc Try.prog Try.f4 false true false false) := by
  refine law_lifted (C := Try.checked) (tb := 4) H enc own started (by kernel_rfl) Try.func4 laidOut rfl Try.underlying4 rfl (by
      intro t ht
      have : t = 26 ∨ t = 27 := by
        rw [Try.params4] at ht; simpa using ht
      rcases this with rfl | rfl <;> exact ⟨by kernel_rfl, of_decide_eq_true (by kernel_rfl)⟩)
    (by
      intro ds hd
      match ds, hd with
      | [d1, d2], _ => rfl)
    (ChangeSpec.witness6 (enc := enc) (C := Try.checked) false ⟨#[], #[.agg #[.slice none 0 0, .slice none 0 0, .slice none 0 0], .slice none 0 0], []⟩ 8 (by kernel_rfl) (by kernel_rfl) (by kernel_rfl) (by kernel_rfl)) ?_
  intro W base args ds p hval hA
  have hval : ∀ (j : Nat) t v, Try.f4.params[j]? = some t → args[j]? = some v → Value.okWide Try.prog W .any base t v := hval
  rw [Try.params4] at hA hval
  obtain ⟨v0, v1, d0, d1, p0, p1, rfl, rfl, rfl, h0, h1⟩ := trodAll_two hA
  obtain ⟨cs0, x0, rfl, r0⟩ := arg_struct Try.underlying26 opStock (hval 0 _ _ rfl rfl) h0
  obtain ⟨A0, B0, C0, c0, d0_, e0, rfl, hk0, hl0, hb0, sk0, sl0, sb0⟩ := stock_rep r0
  obtain ⟨A1, c1, l1, rfl, q1, z1, s1⟩ := arg_slice Try.underlying27 opWants (hval 1 _ _ rfl rfl) h1
  exact splans_any A0 B0 C0 A1 c0 d0_ e0 c1 x0.1 x0.2.1 x0.2.2 l1 W hk0 hl0 hb0 (Nat.le_trans q1 z1) sk0 sl0 sb0 s1

theorem stockPlans_holds : Rows.StockPlansSaid :=
  OpenClaim.holds_of_wide 4 Try.f4 rfl rfl rfl rfl rfl rfl rfl ⟨rfl, rfl, rfl, rfl, rfl⟩ rfl rfl rfl rfl rfl (by kernel_rfl) Try.func4 (by kernel_rfl)
    (of_decide_eq_true (by kernel_rfl)) (by unfold Func.isWrapper; first | (rw [if_pos (by decide +kernel)]; kernel_rfl) | (rw [if_neg (by decide +kernel)]; exact ⟨rfl, rfl⟩))
    (fun os started H enc _ => stockPlans_lifted os started H enc)
#print axioms stockPlans_holds
end Go.Proofs.Ytmffdhfpfijocaa
