
/- THE LAW: for all right stocks with at most 20 kinds, lots and boxes each, wants and lots: after a recall no supply is greater, that of other lots is the same, the recalled lot fits nothing, doing it again changes nothing; a lot that has expired at a tick fits no want until that tick or later. No condition. -/
import Derived.Test.YtmffdhfpfijocaaStkV
import Derived.Test.YtmffdhfpfijocaaStkOw
import Derived.Carry
set_option linter.unusedSimpArgs false
set_option linter.unusedVariables false
namespace Go.Proofs.Ytmffdhfpfijocaa
open Go.RowKit Go.IntWalk Go.ChangeShapes Go.WideShapes

set_option maxRecDepth 100000 in
theorem stockRecalls_lifted (os : Os) (started : os.Started) (H : Type) (enc : TypeId × Value → H) :
    ReturnsInHanded {} Try.checked os 6 .any (Rows.stockRecallsSpec.pre6 enc Try.prog Try.f6 [] false) (Rows.stockRecallsSpec.post enc Try.prog Try.f6 false true false false) := by
  refine law_lifted (C := Try.checked) (tb := 4) H enc own started (by kernel_rfl) Try.func6 laidOut rfl Try.underlying4 rfl (by
      intro t ht
      have : t = 26 ∨ t = 43 ∨ t = 3 := by
        rw [Try.params6] at ht; simpa using ht
      rcases this with rfl | rfl | rfl <;> exact ⟨by kernel_rfl, of_decide_eq_true (by kernel_rfl)⟩)
    (by
      intro ds hd
      match ds, hd with
      | [d1, d2, d3, d4], _ => rfl)
    (ChangeSpec.witness6 (enc := enc) (C := Try.checked) false ⟨#[], #[.agg #[.slice none 0 0, .slice none 0 0, .slice none 0 0], .agg #[.int .i64 0, .int .i64 0, .int .i64 0], .int .i64 0, .int .i64 0], []⟩ 8 (by kernel_rfl) (by kernel_rfl) (by kernel_rfl) (by kernel_rfl)) ?_
  intro W base args ds p hval hA
  have hval : ∀ (j : Nat) t v, Try.f6.params[j]? = some t → args[j]? = some v → Value.okWide Try.prog W .any base t v := hval
  rw [Try.params6] at hA hval
  obtain ⟨v0, v1, v2, v3, d0, d1, d2, d3, p0, p1, p2, p3, rfl, rfl, rfl, h0, h1, h2, h3⟩ := trodAll_four hA
  obtain ⟨cs0, x0, rfl, r0⟩ := arg_struct Try.underlying26 opStock (hval 0 _ _ rfl rfl) h0
  obtain ⟨A0, B0, C0, c0, d0_, e0, rfl, hk0, hl0, hb0, sk0, sl0, sb0⟩ := stock_rep r0
  obtain ⟨cs1, x1, rfl, r1⟩ := arg_struct Try.underlying43 opWant (hval 1 _ _ rfl rfl) h1
  obtain ⟨rfl, i1⟩ := want_rep r1
  obtain ⟨n2, rfl, i2⟩ := arg_int Try.underlying3 (hval 2 _ _ rfl rfl) h2
  obtain ⟨n3, rfl, i3⟩ := arg_int Try.underlying3 (hval 3 _ _ rfl rfl) h3
  exact srecalls_any A0 B0 C0 c0 d0_ e0 x0.1 x0.2.1 x0.2.2 x1 n2 n3 W hk0 hl0 hb0 sk0 sl0 sb0

theorem stockRecalls_holds : Rows.StockRecallsSaid :=
  OpenClaim.holds_of_wide 6 Try.f6 rfl rfl rfl rfl rfl rfl rfl ⟨rfl, rfl, rfl, rfl, rfl⟩ rfl rfl rfl rfl rfl (by kernel_rfl) Try.func6 (by kernel_rfl)
    (of_decide_eq_true (by kernel_rfl)) (by unfold Func.isWrapper; first | (rw [if_pos (by decide +kernel)]; kernel_rfl) | (rw [if_neg (by decide +kernel)]; exact ⟨rfl, rfl⟩))
    (fun os started H enc _ => stockRecalls_lifted os started H enc)
#print axioms stockRecalls_holds
end Go.Proofs.Ytmffdhfpfijocaa
