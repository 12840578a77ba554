/- THE LAW: encodings of one kind, of which one begins with the other, are of equal values: WirePrefix returns true for every input. Condition: the listed package-level variables of Go's library hold what its text lays; the card ties them. -/
import Derived.Test.YtjdblegmpmampaaDoorWire0
import Derived.Test.YtjdblegmpmampaaDoorWireX
set_option linter.unusedSimpArgs false
set_option linter.unusedVariables false
namespace Go.Proofs.YtjdblegmpmampaaDoor
open Go.RowKit Go.IntWalk Go.ChangeShapes Go.WideShapes Go.ChangeAt Go.WideElems

theorem wirePrefix_read : ∀ t ∈ Tryd.f5.params.toList, Tryd.prog.readableRec t = true ∧ t < Tryd.prog.types.size := by
  intro t ht
  have : t = 25 := by
    rw [Tryd.params5] at ht; simpa using ht
  subst this
  exact ⟨by kernel_rfl, of_decide_eq_true (by kernel_rfl)⟩

set_option maxRecDepth 100000 in
theorem wirePrefix_lifted (os : Os) (started : os.Started) (H : Type) (enc : TypeId × Value → H) :
    ReturnsInHanded {} Tryd.checked os 5 .any (fun w args => (Rows.wirePrefixSpec.pre enc Tryd.prog Tryd.f5 [] false w args ∧ laidMetH Tryd.prog laid5 w) ∧ sizedMet enc Tryd.prog Tryd.f5 (OpenSpec.ofChange Rows.wirePrefixSpec) false w args)
      (Rows.wirePrefixSpec.post enc Tryd.prog Tryd.f5 false true false false) := by
  refine returnsInHanded_of_change_and (C := Tryd.checked) (X := fun w _ => laidMetH Tryd.prog laid5 w) (fun w w' args hh h => met_heap (w := w) (w' := w') hh h) own started (by kernel_rfl) Tryd.func5
    (ChangeSpec.witness_shaped (enc := enc) (C := Tryd.checked) (os := os) (X := fun w _ => laidMetH Tryd.prog laid5 w) false (World.doorLaid Tryd.prog 62 os) #[.agg #[.int .i64 0, .int .i64 0, .string ⟨#[]⟩, .slice none 0 0, .slice none 0 0], .agg #[.int .i64 0, .int .i64 0, .string ⟨#[]⟩, .slice none 0 0, .slice none 0 0]] 8 rfl (World.shaped_of_RefB (by kernel_rfl) (by kernel_rfl)) (by kernel_rfl) (by kernel_rfl) (by kernel_rfl) (door_met os _)) ?_
  intro W base args ds gs before hval0 hW _ _ hL _
  refine post_law (C := Tryd.checked) (f := 5) (fn := Tryd.f5) (s := Rows.wirePrefixSpec) (tb := 4) H enc laidOut rfl Tryd.underlying4 rfl wirePrefix_read (by
      intro ds hd
      match ds, hd with
      | [d0, d1], _ => rfl) hW ?_
  intro p hA
  have hval : ∀ (j : Nat) t v, Tryd.f5.params[j]? = some t → args[j]? = some v → Value.okWide Tryd.prog W .any base t v := hval0
  have hA : DataW.TrodAll enc Tryd.prog W 0 (fun _ => true) true Tryd.f5.params.toList args.toList ds p := hA
  rw [Tryd.params5] at hA hval
  obtain ⟨v0, v1, d0, d1, p0_, p1_, rfl, rfl, rfl, h0, h1⟩ := trodAll_two hA
  obtain ⟨cs0, x0, rfl, r0⟩ := arg_struct Tryd.underlying25 opVal (hval 0 _ _ rfl rfl) h0
  obtain ⟨A0, c0, A0b, c0b, rfl, p01, p02, p03, p04, p05, p06, p07, p08, p09⟩ := val_rep r0
  obtain ⟨cs1, x1, rfl, r1⟩ := arg_struct Tryd.underlying25 opVal (hval 1 _ _ rfl rfl) h1
  obtain ⟨A1, c1, A1b, c1b, rfl, p11, p12, p13, p14, p15, p16, p17, p18, p19⟩ := val_rep r1
  exact prefix_any _ _ _ A0 c0 _ A0b c0b _ _ _ _ A1 c1 _ A1b c1b _ W p01 p02 p03 p04 p05 p06 p07 p08 p09 p11 p12 p13 p14 p15 p16 p17 p18 p19 (env_of hL)

theorem wirePrefix_said : Rows.WirePrefixSaid :=
  OpenClaim.holds_of_wide 5 Tryd.f5 rfl rfl rfl rfl rfl rfl rfl ⟨rfl, rfl, rfl, rfl, rfl⟩ rfl rfl rfl rfl rfl (by kernel_rfl) Tryd.func5 (by kernel_rfl)
    (of_decide_eq_true (by kernel_rfl)) (by unfold Func.isWrapper; first | (rw [if_pos (by decide +kernel)]; kernel_rfl) | (rw [if_neg (by decide +kernel)]; exact ⟨rfl, rfl⟩))
    (fun os started H enc _ => wirePrefix_lifted os started H enc)
theorem wirePrefix_plain (f : FuncId) (fn : Func) (hf : Tryd.pinned.checked.prog.funcNamed "taquin/taquinlaw01.WirePrefix" = some f) (hfn : Tryd.pinned.checked.prog.funcs[f]? = some fn) :
    true = Tryd.pinned.checked.prog.looks [] ∧ ∀ (j : Nat) t, fn.params[j]? = some t → Tryd.pinned.checked.prog.wantsStandIn t = false := by
  obtain rfl : f = 5 := Option.some.inj ((show Tryd.prog.funcNamed "taquin/taquinlaw01.WirePrefix" = some 5 by kernel_rfl).symm.trans hf) |>.symm
  obtain rfl : fn = Tryd.f5 := (Option.some.inj (Tryd.func5.symm.trans hfn)).symm
  refine ⟨by kernel_rfl, fun j t ht => ?_⟩
  rw [Tryd.params5] at ht
  have this : t = 25 := by simpa using Array.mem_of_getElem? ht
  subst this
  exact (show Tryd.prog.wantsStandIn 25 = false by kernel_rfl)
theorem wirePrefix_holds : Rows.WirePrefixCardSaid :=
  Claim7.holds_tied_plain_at .later [] _ _ _ _ wirePrefix_said (fun _ h => by cases h) (by kernel_rfl) (fun _ h => by cases h) wirePrefix_row_tie rfl ⟨rfl, rfl⟩ (by kernel_rfl) rfl wirePrefix_plain (by kernel_rfl)
#print axioms wirePrefix_holds
end Go.Proofs.YtjdblegmpmampaaDoor
