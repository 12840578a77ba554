/- THE LAW: for all right layouts with as many cells and shelves the ranks are right, and for all other inputs nothing is asked: LayoutRanks returns true for every input. No condition. -/
import Derived.Test.YtfcihplkaboikaaLayH
namespace Go.Proofs.Ytfcihplkaboikaa
open Go.RowKit Go.IntWalk Go.ChangeShapes Go.WideShapes

theorem own : ownKnob Try.prog.godebug = none := by kernel_rfl
theorem laidOut : laidOutB Try.prog = true := by kernel_rfl
theorem opLayout : Opens Try.prog 24 (List Bool × Int) :=
  opens_pair Try.underlying24 (by kernel_rfl) (opens_list Try.underlying22 (by kernel_rfl) (by decide) (opens_bool Try.underlying4 (by kernel_rfl))) (opens_int Try.underlying3 (by kernel_rfl)) rfl rfl
theorem layout_rep {w : World} {B : Nat} {cs : List Value} {x : List Bool × Int} (h : Rep.rep w B cs x) : ∃ A c, cs = [.slice A x.1.length c, .int .i64 x.2] ∧ x.1.length ≤ maxLen ∧ SlR w B A x.1 := by
  obtain ⟨c1, c2, rfl, _, _, ⟨A, c, rfl, h1, h2, h3⟩, rfl, _⟩ := h
  exact ⟨A, c, rfl, Nat.le_trans h1 h2, h3⟩

theorem ranks_all (A1 A2 : Option Addr) (c1 c2 : Nat) (l1 l2 : List Bool) (t1 t2 r : Int) (w : World) (hl1 : l1.length ≤ maxLen) (hl2 : l2.length ≤ maxLen) (hs1 : SlR w w.heap.size A1 l1) (hs2 : SlR w w.heap.size A2 l2) :
    Calls Try.prog 3 #[.agg #[.slice A1 l1.length c1, .int .i64 t1], .agg #[.slice A2 l2.length c2, .int .i64 t2], .int .i64 r] w fun e w' => e = .returned (.bool true) ∧ Below w.heap.size w w' := by
  by_cases h : rightL l1 t1 = true ∧ rightL l2 t2 = true
  · obtain ⟨h1, h2⟩ := h
    obtain ⟨m1, rfl, r1⟩ := rightN_of h1
    obtain ⟨m2, rfl, r2⟩ := rightN_of h2
    exact ranks_good A1 A2 c1 c2 l1 l2 m1 m2 r w hs1 hs2 r1 r2
  · exact ranks_bad A1 A2 c1 c2 l1 l2 t1 t2 r w hl1 hl2 hs1 hs2 h

set_option maxRecDepth 100000 in
theorem layoutRanks_lifted (os : Os) (started : os.Started) (H : Type) (enc : TypeId × Value → H) :
    ReturnsInHanded {} Try.checked os 3 .any (Rows.layoutRanksSpec.pre6 enc Try.prog Try.f3 [] false) (Rows.layoutRanksSpec.post enc Try.prog Try.f3 false true false false) := by
  refine law_lifted (C := Try.checked) (tb := 4) H enc own started (by kernel_rfl) Try.func3 laidOut rfl Try.underlying4 rfl (by
      intro t ht
      have : t = 24 ∨ t = 3 := by
        rw [Try.params3] at ht; simpa using ht
      rcases this with rfl | rfl
      · exact ⟨by kernel_rfl, of_decide_eq_true (by kernel_rfl)⟩
      · exact ⟨by kernel_rfl, of_decide_eq_true (by kernel_rfl)⟩)
    (by
      intro ds hd
      match ds, hd with
      | [d1, d2, d3], _ => rfl)
    (ChangeSpec.witness6 (enc := enc) (C := Try.checked) false ⟨#[], #[.agg #[.slice none 0 0, .int .i64 0], .agg #[.slice none 0 0, .int .i64 0], .int .i64 0], []⟩ 8 (by kernel_rfl) (by kernel_rfl) (by kernel_rfl) (by kernel_rfl)) ?_
  intro W base args ds p hval hA
  have hval : ∀ (j : Nat) t v, Try.f3.params[j]? = some t → args[j]? = some v → Value.okWide Try.prog W .any base t v := hval
  rw [Try.params3] at hA hval
  obtain ⟨v0, v1, v2, d0, d1, d2, p0, p1, p2, rfl, rfl, rfl, h0, h1, h2⟩ := trodAll_three hA
  obtain ⟨cs0, x0, rfl, r0⟩ := arg_struct Try.underlying24 opLayout (hval 0 _ _ rfl rfl) h0
  obtain ⟨cs1, x1, rfl, r1⟩ := arg_struct Try.underlying24 opLayout (hval 1 _ _ rfl rfl) h1
  obtain ⟨n, rfl, _⟩ := arg_int Try.underlying3 (hval 2 _ _ rfl rfl) h2
  obtain ⟨A1, c1, rfl, hl1, hs1⟩ := layout_rep r0
  obtain ⟨A2, c2, rfl, hl2, hs2⟩ := layout_rep r1
  exact ranks_all A1 A2 c1 c2 x0.1 x1.1 x0.2 x1.2 n W hl1 hl2 hs1 hs2

theorem layoutRanks_holds : Rows.LayoutRanksSaid :=
  OpenClaim.holds_of_wide 3 Try.f3 rfl rfl rfl rfl rfl rfl rfl ⟨rfl, rfl, rfl, rfl, rfl⟩ rfl rfl rfl rfl rfl (by kernel_rfl) Try.func3 (by kernel_rfl)
    (of_decide_eq_true (by kernel_rfl)) (by unfold Func.isWrapper; first | (rw [if_pos (by decide +kernel)]; kernel_rfl) | (rw [if_neg (by decide +kernel)]; exact ⟨rfl, rfl⟩))
    (fun os started H enc _ => layoutRanks_lifted os started H enc)
#print axioms layoutRanks_holds
end Go.Proofs.Ytfcihplkaboikaa
