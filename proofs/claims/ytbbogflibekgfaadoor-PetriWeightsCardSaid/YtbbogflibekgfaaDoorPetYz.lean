
/- THE LAW: the weight of a marking stays the same when transitions fire, if the weighting is an invariant, and a weighting that is none has a transition that changes the weight of some marking: PetriWeights returns true for every input. Condition: the listed package-level variables of Go's library hold what its text lays; the card ties them. -/
import Derived.Test.YtbbogflibekgfaaDoorPetYw
import Derived.Test.YtbbogflibekgfaaDoorPetTied
set_option linter.unusedSimpArgs false
set_option linter.unusedVariables false
namespace Go.Proofs.YtbbogflibekgfaaDoor
open Go.RowKit Go.IntWalk Go.ChangeShapes Go.WideShapes Go.ChangeAt Go.WideElems

theorem petriWeights_read : ∀ t ∈ Tryd.f7.params.toList, Tryd.prog.readableRec t = true ∧ t < Tryd.prog.types.size := by
  intro t ht
  have : t = 24 ∨ t = 25 := by
    rw [Tryd.params7] at ht; simpa using ht
  rcases this with rfl | rfl
  · exact ⟨by kernel_rfl, of_decide_eq_true (by kernel_rfl)⟩
  · exact ⟨by kernel_rfl, of_decide_eq_true (by kernel_rfl)⟩

set_option maxRecDepth 100000 in
theorem petriWeights_lifted (os : Os) (started : os.Started) (H : Type) (enc : TypeId × Value → H) :
    ReturnsInHanded {} Tryd.checked os 7 .any (fun w args => (Rows.petriWeightsSpec.pre enc Tryd.prog Tryd.f7 [] false w args ∧ laidMetH Tryd.prog laid5 w) ∧ sizedMet enc Tryd.prog Tryd.f7 (OpenSpec.ofChange Rows.petriWeightsSpec) false w args)
      (Rows.petriWeightsSpec.post enc Tryd.prog Tryd.f7 false true false false) := by
  refine returnsInHanded_of_change_and (C := Tryd.checked) (X := fun w _ => laidMetH Tryd.prog laid5 w) (fun w w' args hh h => met_heap (w := w) (w' := w') hh h) own started (by kernel_rfl) Tryd.func7
    (ChangeSpec.witness_shaped (enc := enc) (C := Tryd.checked) (os := os) (X := fun w _ => laidMetH Tryd.prog laid5 w) false (World.doorLaid Tryd.prog 65 os) #[.agg #[.int .i64 0, .slice none 0 0], .slice none 0 0, .slice none 0 0, .slice none 0 0] 8 rfl (World.shaped_of_RefB (by kernel_rfl) (by kernel_rfl)) (by kernel_rfl) (by kernel_rfl) (by kernel_rfl) (door_met os _)) ?_
  intro W base args ds gs before hval0 hW _ _ hL _
  refine post_law (C := Tryd.checked) (f := 7) (fn := Tryd.f7) (s := Rows.petriWeightsSpec) (tb := 4) H enc laidOut rfl Tryd.underlying4 rfl petriWeights_read (by
      intro ds hd
      match ds, hd with
      | [d0, d1, d2, d3], _ => rfl) hW ?_
  intro p hA
  have hval : ∀ (j : Nat) t v, Tryd.f7.params[j]? = some t → args[j]? = some v → Value.okWide Tryd.prog W .any base t v := hval0
  have hA : DataW.TrodAll enc Tryd.prog W 0 (fun _ => true) true Tryd.f7.params.toList args.toList ds p := hA
  rw [Tryd.params7] at hA hval
  obtain ⟨v0, v1, v2, v3, d0, d1, d2, d3, p0_, p1_, p2_, p3_, rfl, rfl, rfl, h0, h1, h2, h3⟩ := trodAll_four hA
  obtain ⟨cs0, x0, rfl, r0⟩ := arg_struct Tryd.underlying24 opNet (hval 0 _ _ rfl rfl) h0
  obtain ⟨A0, c0, rfl, k0, s0⟩ := net_rep r0
  obtain ⟨A1, c1, l1, rfl, p11, p12, p13⟩ := arg_slice Tryd.underlying25 opInts (hval 1 _ _ rfl rfl) h1
  obtain ⟨A2, c2, l2, rfl, p21, p22, p23⟩ := arg_slice Tryd.underlying25 opInts (hval 2 _ _ rfl rfl) h2
  obtain ⟨A3, c3, l3, rfl, p31, p32, p33⟩ := arg_slice Tryd.underlying25 opInts (hval 3 _ _ rfl rfl) h3
  exact pweights_any x0.1 A0 c0 x0.2 A1 c1 l1 A2 c2 l2 A3 c3 l3 W k0 s0 (Nat.le_trans p11 p12) p13 (Nat.le_trans p21 p22) p23 (Nat.le_trans p31 p32) p33 (env_of hL)

theorem petriWeights_said : Rows.PetriWeightsSaid :=
  OpenClaim.holds_of_wide 7 Tryd.f7 rfl rfl rfl rfl rfl rfl rfl ⟨rfl, rfl, rfl, rfl, rfl⟩ rfl rfl rfl rfl rfl (by kernel_rfl) Tryd.func7 (by kernel_rfl)
    (of_decide_eq_true (by kernel_rfl)) (by unfold Func.isWrapper; first | (rw [if_pos (by decide +kernel)]; kernel_rfl) | (rw [if_neg (by decide +kernel)]; exact ⟨rfl, rfl⟩))
    (fun os started H enc _ => petriWeights_lifted os started H enc)
theorem petriWeights_plain (f : FuncId) (fn : Func) (hf : Tryd.pinned.checked.prog.funcNamed "taquin/taquinlaw18.PetriWeights" = some f) (hfn : Tryd.pinned.checked.prog.funcs[f]? = some fn) :
    false = Tryd.pinned.checked.prog.looks [] ∧ ∀ (j : Nat) t, fn.params[j]? = some t → Tryd.pinned.checked.prog.wantsStandIn t = false := by
  obtain rfl : f = 7 := Option.some.inj ((show Tryd.prog.funcNamed "taquin/taquinlaw18.PetriWeights" = some 7 by kernel_rfl).symm.trans hf) |>.symm
  obtain rfl : fn = Tryd.f7 := (Option.some.inj (Tryd.func7.symm.trans hfn)).symm
  refine ⟨by kernel_rfl, fun j t ht => ?_⟩
  rw [Tryd.params7] at ht
  have this : t = 24 ∨ t = 25 := by simpa using Array.mem_of_getElem? ht
  rcases this with rfl | rfl
  · exact (show Tryd.prog.wantsStandIn 24 = false by kernel_rfl)
  · exact (show Tryd.prog.wantsStandIn 25 = false by kernel_rfl)
theorem petriWeights_holds : Rows.PetriWeightsCardSaid :=
  Claim7.holds_tied_plain_at .later [] _ _ _ _ petriWeights_said (fun _ h => by cases h) (by kernel_rfl) (fun _ h => by cases h) petriWeights_row_tie rfl ⟨rfl, rfl⟩ (by kernel_rfl) rfl petriWeights_plain (by kernel_rfl)
#print axioms petriWeights_holds
end Go.Proofs.YtbbogflibekgfaaDoor
