
/- THE LAW LayoutShifts: each shift that is possible moves one shelf along a way to a blank, and may have led to the layout after it; what may have led to a layout leads from a right layout to it: LayoutShifts returns true for every input. No condition. -/
import Derived.Test.YtbelaeellcnpmaaLshG
import Derived.Test.YtbelaeellcnpmaaLshOw
import Derived.Carry
set_option linter.unusedSimpArgs false
set_option linter.unusedVariables false
namespace Go.Proofs.Ytbelaeellcnpmaa
open Go.RowKit Go.IntWalk Go.ChangeShapes Go.WideShapes

set_option maxRecDepth 100000 in
theorem layoutShifts_lifted (os : Os) (started : os.Started) (H : Type) (enc : TypeId × Value → H) :
    ReturnsInHanded {} Try.checked os 3 .any (Rows.layoutShiftsSpec.pre6 enc Try.prog Try.f3 [] false) (Rows.layoutShiftsSpec.post enc Try.prog Try.f3 false true false false) := by
  refine law_lifted (C := Try.checked) (tb := 4) H enc own started (by kernel_rfl) Try.func3 laidOut rfl Try.underlying4 rfl (by
      intro t ht
      have : t = 24 ∨ t = 22 ∨ t = 27 := by
        rw [Try.params3] at ht; simpa using ht
      rcases this with rfl | rfl | rfl <;> exact ⟨by kernel_rfl, of_decide_eq_true (by kernel_rfl)⟩)
    (by
      intro ds hd
      match ds, hd with
      | [d1, d2, d3], _ => rfl)
    (ChangeSpec.witness6 (enc := enc) (C := Try.checked) false ⟨#[], #[.agg #[.int .i64 0, .int .i64 0, .int .i64 0, .slice none 0 0, .slice none 0 0], .slice none 0 0, .agg #[.slice none 0 0, .int .i64 0]], []⟩ 8 (by kernel_rfl) (by kernel_rfl) (by kernel_rfl) (by kernel_rfl)) ?_
  intro W base args ds p hval hA
  have hval : ∀ (j : Nat) t v, Try.f3.params[j]? = some t → args[j]? = some v → Value.okWide Try.prog W .any base t v := hval
  rw [Try.params3] at hA hval
  obtain ⟨v0, v1, v2, d0, d1, d2, p0, p1, p2, rfl, rfl, rfl, h0, h1, h2⟩ := trodAll_three hA
  obtain ⟨cs0, x0, rfl, r0⟩ := arg_struct Try.underlying24 opFloor (hval 0 _ _ rfl rfl) h0
  obtain ⟨Ak, Ao, ck, co, rfl, hl1, hl2, hs1, hs2⟩ := floor_rep r0
  obtain ⟨A1, c1, l1, rfl, q1, z1, s1⟩ := arg_slice Try.underlying22 opInts (hval 1 _ _ rfl rfl) h1
  obtain ⟨cs2, x2, rfl, r2⟩ := arg_struct Try.underlying27 opLayout (hval 2 _ _ rfl rfl) h2
  obtain ⟨Al, cl, rfl, hl3, hs3, _⟩ := layout_rep r2
  exact lshifts_any _ _ _ Ak Ao ck co _ _ A1 Al c1 cl l1 _ _ W hl1 hl2 (Nat.le_trans q1 z1) hl3 hs1 hs2 s1 hs3

theorem layoutShifts_holds : Rows.LayoutShiftsSaid :=
  OpenClaim.holds_of_wide 3 Try.f3 rfl rfl rfl rfl rfl rfl rfl ⟨rfl, rfl, rfl, rfl, rfl⟩ rfl rfl rfl rfl rfl (by kernel_rfl) Try.func3 (by kernel_rfl)
    (of_decide_eq_true (by kernel_rfl)) (by unfold Func.isWrapper; first | (rw [if_pos (by decide +kernel)]; kernel_rfl) | (rw [if_neg (by decide +kernel)]; exact ⟨rfl, rfl⟩))
    (fun os started H enc _ => layoutShifts_lifted os started H enc)
#print axioms layoutShifts_holds
end Go.Proofs.Ytbelaeellcnpmaa
