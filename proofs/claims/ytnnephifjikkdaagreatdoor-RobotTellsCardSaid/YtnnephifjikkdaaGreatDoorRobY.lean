
/- THE LAW: Right and Read, and for right minds all other functions, return what the reference returns: RobotTells returns true for every input. Condition: the listed package-level variables of Go's library hold what its text lays; the card ties them. -/
import Derived.Test.YtnnephifjikkdaaGreatDoorRobX
import Derived.Test.YtnnephifjikkdaaGreatDoorRobOx
set_option linter.unusedSimpArgs false
set_option linter.unusedVariables false
namespace Go.Proofs.YtnnephifjikkdaaGreatDoor
open Go.RowKit Go.IntWalk Go.ChangeShapes Go.WideShapes Go.ChangeAt Go.WideElems

theorem robotTells_read : ∀ t ∈ Tryz.f4.params.toList, Tryz.prog.readableRec t = true ∧ t < Tryz.prog.types.size := by
  intro t ht
  have : t = 24 ∨ t = 48 ∨ t = 22 ∨ t = 3 ∨ t = 4 ∨ t = 9 := by
    rw [Tryz.params4] at ht; simpa using ht
  rcases this with rfl | rfl | rfl | rfl | rfl | rfl
  · exact ⟨by kernel_rfl, of_decide_eq_true (by kernel_rfl)⟩
  · exact ⟨by kernel_rfl, of_decide_eq_true (by kernel_rfl)⟩
  · exact ⟨by kernel_rfl, of_decide_eq_true (by kernel_rfl)⟩
  · exact ⟨by kernel_rfl, of_decide_eq_true (by kernel_rfl)⟩
  · exact ⟨by kernel_rfl, of_decide_eq_true (by kernel_rfl)⟩
  · exact ⟨by kernel_rfl, of_decide_eq_true (by kernel_rfl)⟩

set_option maxRecDepth 100000 in
theorem robotTells_lifted (os : Os) (started : os.Started) (H : Type) (enc : TypeId × Value → H) :
    ReturnsInHanded {} Tryz.checked os 4 .any (fun w args => (Rows.robotTellsSpec.pre enc Tryz.prog Tryz.f4 [] false w args ∧ laidMetH Tryz.prog laid5 w) ∧ sizedMet enc Tryz.prog Tryz.f4 (OpenSpec.ofChange Rows.robotTellsSpec) false w args)
      (Rows.robotTellsSpec.post enc Tryz.prog Tryz.f4 false true false false) := by
  refine returnsInHanded_of_change_and (C := Tryz.checked) (X := fun w _ => laidMetH Tryz.prog laid5 w) (fun w w' args hh h => met_heap (w := w) (w' := w') hh h) own started (by kernel_rfl) Tryz.func4
    (ChangeSpec.witness_shaped (enc := enc) (C := Tryz.checked) (os := os) (X := fun w _ => laidMetH Tryz.prog laid5 w) false (World.doorLaid Tryz.prog 62 os) #[.agg #[.int .i64 0, .int .i64 0, .int .i64 0, .slice none 0 0, .slice none 0 0], .agg #[.int .i64 0, .slice none 0 0], .slice none 0 0, .int .i64 0, .bool false, .string ⟨#[]⟩] 8 rfl (World.shaped_of_RefB (by kernel_rfl) (by kernel_rfl)) (by kernel_rfl) (by kernel_rfl) (by kernel_rfl) (door_met os _)) ?_
  intro W base args ds gs before hval0 hW _ _ hL _
  refine post_law (C := Tryz.checked) (f := 4) (fn := Tryz.f4) (s := Rows.robotTellsSpec) (tb := 4) H enc laidOut rfl Tryz.underlying4 rfl robotTells_read (by
      intro ds hd
      match ds, hd with
      | [d0, d1, d2, d3, d4, d5], _ => rfl) hW ?_
  intro p hA
  have hval : ∀ (j : Nat) t v, Tryz.f4.params[j]? = some t → args[j]? = some v → Value.okWide Tryz.prog W .any base t v := hval0
  have hA : DataW.TrodAll enc Tryz.prog W 0 (fun _ => true) true Tryz.f4.params.toList args.toList ds p := hA
  rw [Tryz.params4] at hA hval
  obtain ⟨v0, v1, v2, v3, v4, v5, d0, d1, d2, d3, d4, d5, p0_, p1_, p2_, p3_, p4_, p5_, rfl, rfl, rfl, h0, h1, h2, h3, h4, h5⟩ := trodAll_six hA
  obtain ⟨cs0, x0, rfl, r0⟩ := arg_struct Tryz.underlying24 opFloor (hval 0 _ _ rfl rfl) h0
  obtain ⟨Ak, Ao, ck, co, rfl, hl1, hl2, hs1, hs2⟩ := floor_rep r0
  obtain ⟨cs1, x1, rfl, r1⟩ := arg_struct Tryz.underlying48 opMind (hval 1 _ _ rfl rfl) h1
  obtain ⟨Aq, cq, rfl, hl3, hl4, hs3, hc0⟩ := mind_rep2 r1
  obtain ⟨A2, c2, l2, rfl, p21, p22, p23⟩ := arg_slice Tryz.underlying22 opInts (hval 2 _ _ rfl rfl) h2
  obtain ⟨n3, rfl, p3⟩ := arg_int Tryz.underlying3 (hval 3 _ _ rfl rfl) h3
  obtain ⟨b4, rfl⟩ := arg_bool Tryz.underlying4 (hval 4 _ _ rfl rfl)
  obtain ⟨s5, rfl, p5⟩ := arg_str Tryz.underlying9 (hval 5 _ _ rfl rfl) h5
  exact rtells_any _ _ _ Ak Ao ck co _ _ _ Aq cq _ A2 c2 l2 n3 b4 s5 W hl1 hl2 hl3 hl4 (Nat.le_trans p21 p22) hc0 hs1 hs2 hs3 p23 (env_of hL)

theorem robotTells_said : Rows.RobotTellsSaid :=
  OpenClaim.holds_of_wide 4 Tryz.f4 rfl rfl rfl rfl rfl rfl rfl ⟨rfl, rfl, rfl, rfl, rfl⟩ rfl rfl rfl rfl rfl (by kernel_rfl) Tryz.func4 (by kernel_rfl)
    (of_decide_eq_true (by kernel_rfl)) (by unfold Func.isWrapper; first | (rw [if_pos (by decide +kernel)]; kernel_rfl) | (rw [if_neg (by decide +kernel)]; exact ⟨rfl, rfl⟩))
    (fun os started H enc _ => robotTells_lifted os started H enc)
theorem robotTells_plain (f : FuncId) (fn : Func) (hf : Tryz.pinned.checked.prog.funcNamed "taquin/taquinlaw22.RobotTells" = some f) (hfn : Tryz.pinned.checked.prog.funcs[f]? = some fn) :
    true = Tryz.pinned.checked.prog.looks [] ∧ ∀ (j : Nat) t, fn.params[j]? = some t → Tryz.pinned.checked.prog.wantsStandIn t = false := by
  obtain rfl : f = 4 := Option.some.inj ((show Tryz.prog.funcNamed "taquin/taquinlaw22.RobotTells" = some 4 by kernel_rfl).symm.trans hf) |>.symm
  obtain rfl : fn = Tryz.f4 := (Option.some.inj (Tryz.func4.symm.trans hfn)).symm
  refine ⟨by kernel_rfl, fun j t ht => ?_⟩
  rw [Tryz.params4] at ht
  have this : t = 24 ∨ t = 48 ∨ t = 22 ∨ t = 3 ∨ t = 4 ∨ t = 9 := by simpa using Array.mem_of_getElem? ht
  rcases this with rfl | rfl | rfl | rfl | rfl | rfl
  · exact (show Tryz.prog.wantsStandIn 24 = false by kernel_rfl)
  · exact (show Tryz.prog.wantsStandIn 48 = false by kernel_rfl)
  · exact (show Tryz.prog.wantsStandIn 22 = false by kernel_rfl)
  · exact (show Tryz.prog.wantsStandIn 3 = false by kernel_rfl)
  · exact (show Tryz.prog.wantsStandIn 4 = false by kernel_rfl)
  · exact (show Tryz.prog.wantsStandIn 9 = false by kernel_rfl)
theorem robotTells_holds : Rows.RobotTellsCardSaid :=
  Claim7.holds_tied_plain_at .later [] _ _ _ _ robotTells_said (fun _ h => by cases h) (by kernel_rfl) (fun _ h => by cases h) robotTells_row_tie rfl ⟨rfl, rfl⟩ (by kernel_rfl) rfl robotTells_plain (by kernel_rfl)
#print axioms robotTells_holds
end Go.Proofs.YtnnephifjikkdaaGreatDoor
