
/- THE LAW: at no moment both controllers hold the same zone, each by its own clock, and each zone is held by its home whenever its clock has reached the end: LeaseApart returns true for every input. Condition: the listed package-level variables of Go's library hold what its text lays; the card ties them. -/
import Derived.Test.YtappgjdnfllblaaDoorLeaAp
import Derived.Test.YtappgjdnfllblaaDoorLeaOv
set_option linter.unusedSimpArgs false
set_option linter.unusedVariables false
namespace Go.Proofs.YtappgjdnfllblaaDoor
open Go.RowKit Go.IntWalk Go.ChangeShapes Go.WideShapes Go.ChangeAt Go.WideElems

theorem leaseApart_read : ∀ t ∈ Tryd.f5.params.toList, Tryd.prog.readableRec t = true ∧ t < Tryd.prog.types.size := by
  intro t ht
  have : t = 46 ∨ t = 59 := by
    rw [Tryd.params5] at ht; simpa using ht
  rcases this with rfl | rfl
  · exact ⟨by kernel_rfl, of_decide_eq_true (by kernel_rfl)⟩
  · exact ⟨by kernel_rfl, of_decide_eq_true (by kernel_rfl)⟩

set_option maxRecDepth 100000 in
theorem leaseApart_lifted (os : Os) (started : os.Started) (H : Type) (enc : TypeId × Value → H) :
    ReturnsInHanded {} Tryd.checked os 5 .any (fun w args => (Rows.leaseApartSpec.pre enc Tryd.prog Tryd.f5 [] false w args ∧ laidMetH Tryd.prog laid5 w) ∧ sizedMet enc Tryd.prog Tryd.f5 (OpenSpec.ofChange Rows.leaseApartSpec) false w args)
      (Rows.leaseApartSpec.post enc Tryd.prog Tryd.f5 false true false false) := by
  refine returnsInHanded_of_change_and (C := Tryd.checked) (X := fun w _ => laidMetH Tryd.prog laid5 w) (fun w w' args hh h => met_heap (w := w) (w' := w') hh h) own started (by kernel_rfl) Tryd.func5
    (ChangeSpec.witness_shaped (enc := enc) (C := Tryd.checked) (os := os) (X := fun w _ => laidMetH Tryd.prog laid5 w) false (World.doorLaid Tryd.prog 62 os) #[.slice none 0 0, .slice none 0 0] 8 rfl (World.shaped_of_RefB (by kernel_rfl) (by kernel_rfl)) (by kernel_rfl) (by kernel_rfl) (by kernel_rfl) (door_met os _)) ?_
  intro W base args ds gs before hval0 hW _ _ hL _
  refine post_law (C := Tryd.checked) (f := 5) (fn := Tryd.f5) (s := Rows.leaseApartSpec) (tb := 4) H enc laidOut rfl Tryd.underlying4 rfl leaseApart_read (by
      intro ds hd
      match ds, hd with
      | [d0, d1], _ => rfl) hW ?_
  intro p hA
  have hval : ∀ (j : Nat) t v, Tryd.f5.params[j]? = some t → args[j]? = some v → Value.okWide Tryd.prog W .any base t v := hval0
  have hA : DataW.TrodAll enc Tryd.prog W 0 (fun _ => true) true Tryd.f5.params.toList args.toList ds p := hA
  rw [Tryd.params5] at hA hval
  obtain ⟨v0, v1, d0, d1, p0_, p1_, rfl, rfl, rfl, h0, h1⟩ := trodAll_two hA
  obtain ⟨A0, c0, l0, rfl, p01, p02, p03⟩ := arg_slice Tryd.underlying46 opInts (hval 0 _ _ rfl rfl) h0
  obtain ⟨A1, c1, l1, rfl, p11, p12, p13⟩ := arg_slice Tryd.underlying59 opActs (hval 1 _ _ rfl rfl) h1
  exact lapart_any A0 c0 l0 A1 c1 l1 W p01 p02 (Nat.le_trans p11 p12) p03 p13 (env_of hL)

theorem leaseApart_said : Rows.LeaseApartSaid :=
  OpenClaim.holds_of_wide 5 Tryd.f5 rfl rfl rfl rfl rfl rfl rfl ⟨rfl, rfl, rfl, rfl, rfl⟩ rfl rfl rfl rfl rfl (by kernel_rfl) Tryd.func5 (by kernel_rfl)
    (of_decide_eq_true (by kernel_rfl)) (by unfold Func.isWrapper; first | (rw [if_pos (by decide +kernel)]; kernel_rfl) | (rw [if_neg (by decide +kernel)]; exact ⟨rfl, rfl⟩))
    (fun os started H enc _ => leaseApart_lifted os started H enc)
theorem leaseApart_plain (f : FuncId) (fn : Func) (hf : Tryd.pinned.checked.prog.funcNamed "taquin/taquinlaw44.LeaseApart" = some f) (hfn : Tryd.pinned.checked.prog.funcs[f]? = some fn) :
    true = Tryd.pinned.checked.prog.looks [] ∧ ∀ (j : Nat) t, fn.params[j]? = some t → Tryd.pinned.checked.prog.wantsStandIn t = false := by
  obtain rfl : f = 5 := Option.some.inj ((show Tryd.prog.funcNamed "taquin/taquinlaw44.LeaseApart" = some 5 by kernel_rfl).symm.trans hf) |>.symm
  obtain rfl : fn = Tryd.f5 := (Option.some.inj (Tryd.func5.symm.trans hfn)).symm
  refine ⟨by kernel_rfl, fun j t ht => ?_⟩
  rw [Tryd.params5] at ht
  have this : t = 46 ∨ t = 59 := by simpa using Array.mem_of_getElem? ht
  rcases this with rfl | rfl
  · exact (show Tryd.prog.wantsStandIn 46 = false by kernel_rfl)
  · exact (show Tryd.prog.wantsStandIn 59 = false by kernel_rfl)
theorem leaseApart_holds : Rows.LeaseApartCardSaid :=
  Claim7.holds_tied_plain_at .later [] _ _ _ _ leaseApart_said (fun _ h => by cases h) (by kernel_rfl) (fun _ h => by cases h) leaseApart_row_tie rfl ⟨rfl, rfl⟩ (by kernel_rfl) rfl leaseApart_plain (by kernel_rfl)
#print axioms leaseApart_holds
end Go.Proofs.YtappgjdnfllblaaDoor
