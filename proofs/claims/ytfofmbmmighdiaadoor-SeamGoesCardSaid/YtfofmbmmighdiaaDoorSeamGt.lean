
/- THE LAW: after all packets are lost, if each controller offers again what it has offered and everything arrives, each robot is commanded by exactly one controller, and one that is offered then is commanded by the other one, if that takes it, and by the first one, if it does not: SeamGoes returns true for every input. Condition: the listed package-level variables of Go's library hold what its text lays; the card ties them. -/
import Derived.Test.YtfofmbmmighdiaaDoorSeamGs
import Derived.Test.YtfofmbmmighdiaaDoorSeamOv
set_option linter.unusedSimpArgs false
set_option linter.unusedVariables false
namespace Go.Proofs.YtfofmbmmighdiaaDoor
open Go.RowKit Go.IntWalk Go.ChangeShapes Go.WideShapes Go.ChangeAt Go.WideElems

theorem seamGoes_read : ∀ t ∈ Tryd.f4.params.toList, Tryd.prog.readableRec t = true ∧ t < Tryd.prog.types.size := by
  intro t ht
  have : t = 22 ∨ t = 57 ∨ t = 3 ∨ t = 4 := by
    rw [Tryd.params4] at ht; simpa using ht
  rcases this with rfl | rfl | rfl | rfl
  · exact ⟨by kernel_rfl, of_decide_eq_true (by kernel_rfl)⟩
  · exact ⟨by kernel_rfl, of_decide_eq_true (by kernel_rfl)⟩
  · exact ⟨by kernel_rfl, of_decide_eq_true (by kernel_rfl)⟩
  · exact ⟨by kernel_rfl, of_decide_eq_true (by kernel_rfl)⟩

set_option maxRecDepth 100000 in
theorem seamGoes_lifted (os : Os) (started : os.Started) (H : Type) (enc : TypeId × Value → H) :
    ReturnsInHanded {} Tryd.checked os 4 .any (fun w args => (Rows.seamGoesSpec.pre enc Tryd.prog Tryd.f4 [] false w args ∧ laidMetH Tryd.prog laid5 w) ∧ sizedMet enc Tryd.prog Tryd.f4 (OpenSpec.ofChange Rows.seamGoesSpec) false w args)
      (Rows.seamGoesSpec.post enc Tryd.prog Tryd.f4 false true false false) := by
  refine returnsInHanded_of_change_and (C := Tryd.checked) (X := fun w _ => laidMetH Tryd.prog laid5 w) (fun w w' args hh h => met_heap (w := w) (w' := w') hh h) own started (by kernel_rfl) Tryd.func4
    (ChangeSpec.witness_shaped (enc := enc) (C := Tryd.checked) (os := os) (X := fun w _ => laidMetH Tryd.prog laid5 w) false (World.doorLaid Tryd.prog 62 os) #[.slice none 0 0, .slice none 0 0, .int .i64 0, .bool false] 8 rfl (World.shaped_of_RefB (by kernel_rfl) (by kernel_rfl)) (by kernel_rfl) (by kernel_rfl) (by kernel_rfl) (door_met os _)) ?_
  intro W base args ds gs before hval0 hW _ _ hL _
  refine post_law (C := Tryd.checked) (f := 4) (fn := Tryd.f4) (s := Rows.seamGoesSpec) (tb := 4) H enc laidOut rfl Tryd.underlying4 rfl seamGoes_read (by
      intro ds hd
      match ds, hd with
      | [d0, d1, d2, d3], _ => rfl) hW ?_
  intro p hA
  have hval : ∀ (j : Nat) t v, Tryd.f4.params[j]? = some t → args[j]? = some v → Value.okWide Tryd.prog W .any base t v := hval0
  have hA : DataW.TrodAll enc Tryd.prog W 0 (fun _ => true) true Tryd.f4.params.toList args.toList ds p := hA
  rw [Tryd.params4] at hA hval
  obtain ⟨v0, v1, v2, v3, d0, d1, d2, d3, p0_, p1_, p2_, p3_, rfl, rfl, rfl, h0, h1, h2, h3⟩ := trodAll_four hA
  obtain ⟨A0, c0, l0, rfl, p01, p02, p03⟩ := arg_slice Tryd.underlying22 opBools (hval 0 _ _ rfl rfl) h0
  obtain ⟨A1, c1, l1, rfl, p11, p12, p13⟩ := arg_slice Tryd.underlying57 opActs (hval 1 _ _ rfl rfl) h1
  obtain ⟨n2, rfl, p2⟩ := arg_int Tryd.underlying3 (hval 2 _ _ rfl rfl) h2
  obtain ⟨b3, rfl⟩ := arg_bool Tryd.underlying4 (hval 3 _ _ rfl rfl)
  exact sgoes_any A0 c0 l0 A1 c1 l1 n2 b3 W (Nat.le_trans p01 p02) (Nat.le_trans p11 p12) p03 p13 (env_of hL)

theorem seamGoes_said : Rows.SeamGoesSaid :=
  OpenClaim.holds_of_wide 4 Tryd.f4 rfl rfl rfl rfl rfl rfl rfl ⟨rfl, rfl, rfl, rfl, rfl⟩ rfl rfl rfl rfl rfl (by kernel_rfl) Tryd.func4 (by kernel_rfl)
    (of_decide_eq_true (by kernel_rfl)) (by unfold Func.isWrapper; first | (rw [if_pos (by decide +kernel)]; kernel_rfl) | (rw [if_neg (by decide +kernel)]; exact ⟨rfl, rfl⟩))
    (fun os started H enc _ => seamGoes_lifted os started H enc)
theorem seamGoes_plain (f : FuncId) (fn : Func) (hf : Tryd.pinned.checked.prog.funcNamed "taquin/taquinlaw45.SeamGoes" = some f) (hfn : Tryd.pinned.checked.prog.funcs[f]? = some fn) :
    true = Tryd.pinned.checked.prog.looks [] ∧ ∀ (j : Nat) t, fn.params[j]? = some t → Tryd.pinned.checked.prog.wantsStandIn t = false := by
  obtain rfl : f = 4 := Option.some.inj ((show Tryd.prog.funcNamed "taquin/taquinlaw45.SeamGoes" = some 4 by kernel_rfl).symm.trans hf) |>.symm
  obtain rfl : fn = Tryd.f4 := (Option.some.inj (Tryd.func4.symm.trans hfn)).symm
  refine ⟨by kernel_rfl, fun j t ht => ?_⟩
  rw [Tryd.params4] at ht
  have this : t = 22 ∨ t = 57 ∨ t = 3 ∨ t = 4 := by simpa using Array.mem_of_getElem? ht
  rcases this with rfl | rfl | rfl | rfl
  · exact (show Tryd.prog.wantsStandIn 22 = false by kernel_rfl)
  · exact (show Tryd.prog.wantsStandIn 57 = false by kernel_rfl)
  · exact (show Tryd.prog.wantsStandIn 3 = false by kernel_rfl)
  · exact (show Tryd.prog.wantsStandIn 4 = false by kernel_rfl)
theorem seamGoes_holds : Rows.SeamGoesCardSaid :=
  Claim7.holds_tied_plain_at .later [] _ _ _ _ seamGoes_said (fun _ h => by cases h) (by kernel_rfl) (fun _ h => by cases h) seamGoes_row_tie rfl ⟨rfl, rfl⟩ (by kernel_rfl) rfl seamGoes_plain (by kernel_rfl)
#print axioms seamGoes_holds
end Go.Proofs.YtfofmbmmighdiaaDoor
