
/- THE LAW: a mind is read from its encoding as it was, and what is read of a string is right and has this encoding: RobotBack returns true for every input. Condition: the listed package-level variables of Go's library hold what its text lays; the card ties them. -/
import Derived.Test.YtnnephifjikkdaaDoorRobU
import Derived.Test.YtnnephifjikkdaaDoorRobOw
set_option linter.unusedSimpArgs false
set_option linter.unusedVariables false
namespace Go.Proofs.YtnnephifjikkdaaDoor
open Go.RowKit Go.IntWalk Go.ChangeShapes Go.WideShapes Go.ChangeAt Go.WideElems

theorem robotBack_read : ∀ t ∈ Tryd.f4.params.toList, Tryd.prog.readableRec t = true ∧ t < Tryd.prog.types.size := by
  intro t ht
  have : t = 34 ∨ t = 36 ∨ t = 9 := by
    rw [Tryd.params4] at ht; simpa using ht
  rcases this with rfl | rfl | rfl
  · exact ⟨by kernel_rfl, of_decide_eq_true (by kernel_rfl)⟩
  · exact ⟨by kernel_rfl, of_decide_eq_true (by kernel_rfl)⟩
  · exact ⟨by kernel_rfl, of_decide_eq_true (by kernel_rfl)⟩

set_option maxRecDepth 100000 in
theorem robotBack_lifted (os : Os) (started : os.Started) (H : Type) (enc : TypeId × Value → H) :
    ReturnsInHanded {} Tryd.checked os 4 .any (fun w args => (Rows.robotBackSpec.pre enc Tryd.prog Tryd.f4 [] false w args ∧ laidMetH Tryd.prog laid5 w) ∧ sizedMet enc Tryd.prog Tryd.f4 (OpenSpec.ofChange Rows.robotBackSpec) false w args)
      (Rows.robotBackSpec.post enc Tryd.prog Tryd.f4 false true false false) := by
  refine returnsInHanded_of_change_and (C := Tryd.checked) (X := fun w _ => laidMetH Tryd.prog laid5 w) (fun w w' args hh h => met_heap (w := w) (w' := w') hh h) own started (by kernel_rfl) Tryd.func4
    (ChangeSpec.witness_shaped (enc := enc) (C := Tryd.checked) (os := os) (X := fun w _ => laidMetH Tryd.prog laid5 w) false (World.doorLaid Tryd.prog 62 os) #[.agg #[.int .i64 0, .int .i64 0, .int .i64 0, .slice none 0 0, .slice none 0 0], .agg #[.int .i64 0, .slice none 0 0], .string ⟨#[]⟩] 8 rfl (World.shaped_of_RefB (by kernel_rfl) (by kernel_rfl)) (by kernel_rfl) (by kernel_rfl) (by kernel_rfl) (door_met os _)) ?_
  intro W base args ds gs before hval0 hW _ _ hL _
  refine post_law (C := Tryd.checked) (f := 4) (fn := Tryd.f4) (s := Rows.robotBackSpec) (tb := 4) H enc laidOut rfl Tryd.underlying4 rfl robotBack_read (by
      intro ds hd
      match ds, hd with
      | [d0, d1, d2], _ => rfl) hW ?_
  intro p hA
  have hval : ∀ (j : Nat) t v, Tryd.f4.params[j]? = some t → args[j]? = some v → Value.okWide Tryd.prog W .any base t v := hval0
  have hA : DataW.TrodAll enc Tryd.prog W 0 (fun _ => true) true Tryd.f4.params.toList args.toList ds p := hA
  rw [Tryd.params4] at hA hval
  obtain ⟨v0, v1, v2, d0, d1, d2, p0_, p1_, p2_, rfl, rfl, rfl, h0, h1, h2⟩ := trodAll_three hA
  obtain ⟨cs0, x0, rfl, r0⟩ := arg_struct Tryd.underlying34 opFloor (hval 0 _ _ rfl rfl) h0
  obtain ⟨Ak, Ao, ck, co, rfl, hl1, hl2, hs1, hs2⟩ := floor_rep r0
  obtain ⟨cs1, x1, rfl, r1⟩ := arg_struct Tryd.underlying36 opMind (hval 1 _ _ rfl rfl) h1
  obtain ⟨Aq, cq, rfl, hl3, hs3, hc0⟩ := mind_rep r1
  obtain ⟨s2, rfl, p2⟩ := arg_str Tryd.underlying9 (hval 2 _ _ rfl rfl) h2
  exact rback_any _ _ _ Ak Ao ck co _ _ _ Aq cq _ s2 W hl1 hl2 hl3 hc0 hs1 hs2 hs3 (env_of hL)

theorem robotBack_said : Rows.RobotBackSaid :=
  OpenClaim.holds_of_wide 4 Tryd.f4 rfl rfl rfl rfl rfl rfl rfl ⟨rfl, rfl, rfl, rfl, rfl⟩ rfl rfl rfl rfl rfl (by kernel_rfl) Tryd.func4 (by kernel_rfl)
    (of_decide_eq_true (by kernel_rfl)) (by unfold Func.isWrapper; first | (rw [if_pos (by decide +kernel)]; kernel_rfl) | (rw [if_neg (by decide +kernel)]; exact ⟨rfl, rfl⟩))
    (fun os started H enc _ => robotBack_lifted os started H enc)
theorem robotBack_plain (f : FuncId) (fn : Func) (hf : Tryd.pinned.checked.prog.funcNamed "taquin/taquinlaw22.RobotBack" = some f) (hfn : Tryd.pinned.checked.prog.funcs[f]? = some fn) :
    true = Tryd.pinned.checked.prog.looks [] ∧ ∀ (j : Nat) t, fn.params[j]? = some t → Tryd.pinned.checked.prog.wantsStandIn t = false := by
  obtain rfl : f = 4 := Option.some.inj ((show Tryd.prog.funcNamed "taquin/taquinlaw22.RobotBack" = some 4 by kernel_rfl).symm.trans hf) |>.symm
  obtain rfl : fn = Tryd.f4 := (Option.some.inj (Tryd.func4.symm.trans hfn)).symm
  refine ⟨by kernel_rfl, fun j t ht => ?_⟩
  rw [Tryd.params4] at ht
  have this : t = 34 ∨ t = 36 ∨ t = 9 := by simpa using Array.mem_of_getElem? ht
  rcases this with rfl | rfl | rfl
  · exact (show Tryd.prog.wantsStandIn 34 = false by kernel_rfl)
  · exact (show Tryd.prog.wantsStandIn 36 = false by kernel_rfl)
  · exact (show Tryd.prog.wantsStandIn 9 = false by kernel_rfl)
theorem robotBack_holds : Rows.RobotBackCardSaid :=
  Claim7.holds_tied_plain_at .later [] _ _ _ _ robotBack_said (fun _ h => by cases h) (by kernel_rfl) (fun _ h => by cases h) robotBack_row_tie rfl ⟨rfl, rfl⟩ (by kernel_rfl) rfl robotBack_plain (by kernel_rfl)
#print axioms robotBack_holds
end Go.Proofs.YtnnephifjikkdaaDoor
