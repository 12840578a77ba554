
/- THE LAW: for all right stocks with at most 20 kinds, lots and boxes each, and two lists of at most 10 takes: picking both, one after the other, is picking all of them at once; each unit that is picked makes its box lighter by the weight of its kind, and the supply of each want that it fits less; the other boxes stay. No condition. -/
import Derived.Test.YtmffdhfpfijocaaStkPb
import Derived.Test.YtmffdhfpfijocaaStkOw
import Derived.Carry
set_option linter.unusedSimpArgs false
set_option linter.unusedVariables false
namespace Go.Proofs.Ytmffdhfpfijocaa
open Go.RowKit Go.IntWalk Go.ChangeShapes Go.WideShapes

set_option maxRecDepth 100000 in
theorem stockPicks_lifted (os : Os) (started : os.Started) (H : Type) (enc : TypeId × Value → H) :
    ReturnsInHanded {} Try.checked os 5 .any (Rows.stockPicksSpec.pre6 enc Try.prog Try.f5 [] false) (Rows.stockPicksSpec.post enc Try.prog Try.f5 false true false false) := by
  refine law_lifted (C := Try.checked) (tb := 4) H enc own started (by kernel_rfl) Try.func5 laidOut rfl Try.underlying4 rfl (by
      intro t ht
      have : t = 26 ∨ t = 34 ∨ t = 43 := by
        rw [Try.params5] at ht; simpa using ht
      rcases this with rfl | rfl | rfl <;> exact ⟨by kernel_rfl, of_decide_eq_true (by kernel_rfl)⟩)
    (by
      intro ds hd
      match ds, hd with
      | [d1, d2, d3, d4], _ => rfl)
    (ChangeSpec.witness6 (enc := enc) (C := Try.checked) false ⟨#[], #[.agg #[.slice none 0 0, .slice none 0 0, .slice none 0 0], .slice none 0 0, .slice none 0 0, .agg #[.int .i64 0, .int .i64 0, .int .i64 0]], []⟩ 8 (by kernel_rfl) (by kernel_rfl) (by kernel_rfl) (by kernel_rfl)) ?_
  intro W base args ds p hval hA
  have hval : ∀ (j : Nat) t v, Try.f5.params[j]? = some t → args[j]? = some v → Value.okWide Try.prog W .any base t v := hval
  rw [Try.params5] at hA hval
  obtain ⟨v0, v1, v2, v3, d0, d1, d2, d3, p0, p1, p2, p3, rfl, rfl, rfl, h0, h1, h2, h3⟩ := trodAll_four hA
  obtain ⟨cs0, x0, rfl, r0⟩ := arg_struct Try.underlying26 opStock (hval 0 _ _ rfl rfl) h0
  obtain ⟨A0, B0, C0, c0, d0_, e0, rfl, hk0, hl0, hb0, sk0, sl0, sb0⟩ := stock_rep r0
  obtain ⟨A1, c1, l1, rfl, q1, z1, s1⟩ := arg_slice Try.underlying34 opTakes (hval 1 _ _ rfl rfl) h1
  obtain ⟨A2, c2, l2, rfl, q2, z2, s2⟩ := arg_slice Try.underlying34 opTakes (hval 2 _ _ rfl rfl) h2
  obtain ⟨cs3, x3, rfl, r3⟩ := arg_struct Try.underlying43 opWant (hval 3 _ _ rfl rfl) h3
  obtain ⟨rfl, i3⟩ := want_rep r3
  exact spicks_any A0 B0 C0 A1 A2 c0 d0_ e0 c1 c2 x0.1 x0.2.1 x0.2.2 l1 l2 x3 W hk0 hl0 hb0 (Nat.le_trans q1 z1) (Nat.le_trans q2 z2) sk0 sl0 sb0 s1 s2

theorem stockPicks_holds : Rows.StockPicksSaid :=
  OpenClaim.holds_of_wide 5 Try.f5 rfl rfl rfl rfl rfl rfl rfl ⟨rfl, rfl, rfl, rfl, rfl⟩ rfl rfl rfl rfl rfl (by kernel_rfl) Try.func5 (by kernel_rfl)
    (of_decide_eq_true (by kernel_rfl)) (by unfold Func.isWrapper; first | (rw [if_pos (by decide +kernel)]; kernel_rfl) | (rw [if_neg (by decide +kernel)]; exact ⟨rfl, rfl⟩))
    (fun os started H enc _ => stockPicks_lifted os started H enc)
#print axioms stockPicks_holds
end Go.Proofs.Ytmffdhfpfijocaa
