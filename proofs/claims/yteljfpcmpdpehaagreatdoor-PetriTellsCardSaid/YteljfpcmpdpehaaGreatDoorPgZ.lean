
/- THE LAW: every function returns what the reference returns: Right, RightMarking, Enabled, Fire, Live, IsSiphon, IsTrap, Largest, Siphons, Invariant, Weight, Bytes and Read: PetriTells returns true for every input. Condition: the listed package-level variables of Go's library hold what its text lays; the card ties them. -/
import Derived.Test.YteljfpcmpdpehaaGreatDoorPgY
import Derived.Test.YteljfpcmpdpehaaGreatDoorPgOw
set_option linter.unusedSimpArgs false
set_option linter.unusedVariables false
namespace Go.Proofs.YteljfpcmpdpehaaGreatDoor
open Go.RowKit Go.IntWalk Go.ChangeShapes Go.WideShapes Go.ChangeAt Go.WideElems

theorem petriTells_read : ∀ t ∈ Tryz.f3.params.toList, Tryz.prog.readableRec t = true ∧ t < Tryz.prog.types.size := by
  intro t ht
  have : t = 24 ∨ t = 25 ∨ t = 25 ∨ t = 25 ∨ t = 3 ∨ t = 9 := by
    rw [Tryz.params3] at ht; simpa using ht
  rcases this with rfl | rfl | rfl | rfl | rfl | rfl
  · exact ⟨by kernel_rfl, of_decide_eq_true (by kernel_rfl)⟩
  · exact ⟨by kernel_rfl, of_decide_eq_true (by kernel_rfl)⟩
  · exact ⟨by kernel_rfl, of_decide_eq_true (by kernel_rfl)⟩
  · exact ⟨by kernel_rfl, of_decide_eq_true (by kernel_rfl)⟩
  · exact ⟨by kernel_rfl, of_decide_eq_true (by kernel_rfl)⟩
  · exact ⟨by kernel_rfl, of_decide_eq_true (by kernel_rfl)⟩

set_option maxRecDepth 100000 in
theorem petriTells_lifted (os : Os) (started : os.Started) (H : Type) (enc : TypeId × Value → H) :
    ReturnsInHanded {} Tryz.checked os 3 .any (fun w args => (Rows.petriTellsSpec.pre enc Tryz.prog Tryz.f3 [] false w args ∧ laidMetH Tryz.prog laid5 w) ∧ sizedMet enc Tryz.prog Tryz.f3 (OpenSpec.ofChange Rows.petriTellsSpec) false w args)
      (Rows.petriTellsSpec.post enc Tryz.prog Tryz.f3 false true false false) := by
  refine returnsInHanded_of_change_and (C := Tryz.checked) (X := fun w _ => laidMetH Tryz.prog laid5 w) (fun w w' args hh h => met_heap (w := w) (w' := w') hh h) own started (by kernel_rfl) Tryz.func3
    (ChangeSpec.witness_shaped (enc := enc) (C := Tryz.checked) (os := os) (X := fun w _ => laidMetH Tryz.prog laid5 w) false (World.doorLaid Tryz.prog 62 os) #[.agg #[.int .i64 0, .slice none 0 0], .slice none 0 0, .slice none 0 0, .slice none 0 0, .int .i64 0, .string ⟨#[]⟩] 8 rfl (World.shaped_of_RefB (by kernel_rfl) (by kernel_rfl)) (by kernel_rfl) (by kernel_rfl) (by kernel_rfl) (door_met os _)) ?_
  intro W base args ds gs before hval0 hW _ _ hL _
  refine post_law (C := Tryz.checked) (f := 3) (fn := Tryz.f3) (s := Rows.petriTellsSpec) (tb := 4) H enc laidOut rfl Tryz.underlying4 rfl petriTells_read (by
      intro ds hd
      match ds, hd with
      | [d0, d1, d2, d3, d4, d5], _ => rfl) hW ?_
  intro p hA
  have hval : ∀ (j : Nat) t v, Tryz.f3.params[j]? = some t → args[j]? = some v → Value.okWide Tryz.prog W .any base t v := hval0
  have hA : DataW.TrodAll enc Tryz.prog W 0 (fun _ => true) true Tryz.f3.params.toList args.toList ds p := hA
  rw [Tryz.params3] at hA hval
  obtain ⟨v0, v1, v2, v3, v4, v5, d0, d1, d2, d3, d4, d5, p0_, p1_, p2_, p3_, p4_, p5_, rfl, rfl, rfl, h0, h1, h2, h3, h4, h5⟩ := trodAll_six hA
  obtain ⟨cs0, x0, rfl, r0⟩ := arg_struct Tryz.underlying24 opNet (hval 0 _ _ rfl rfl) h0
  obtain ⟨A0, c0, rfl, p01, p02, p03⟩ := net_rep r0
  obtain ⟨A1, c1, l1, rfl, p11, p12, p13⟩ := arg_slice Tryz.underlying25 opInts (hval 1 _ _ rfl rfl) h1
  obtain ⟨A2, c2, l2, rfl, p21, p22, p23⟩ := arg_slice Tryz.underlying25 opInts (hval 2 _ _ rfl rfl) h2
  obtain ⟨A3, c3, l3, rfl, p31, p32, p33⟩ := arg_slice Tryz.underlying25 opInts (hval 3 _ _ rfl rfl) h3
  obtain ⟨n4, rfl, p4⟩ := arg_int Tryz.underlying3 (hval 4 _ _ rfl rfl) h4
  obtain ⟨s5, rfl, p5⟩ := arg_str Tryz.underlying9 (hval 5 _ _ rfl rfl) h5
  exact ptells_any _ A0 A1 A2 A3 c0 c1 c2 c3 _ l1 l2 l3 n4 s5 W p03 p01 (Nat.le_trans p11 p12) (Nat.le_trans p21 p22) (Nat.le_trans p31 p32) p02 p13 p23 p33 (penv_of hL) (env_of hL)

theorem petriTells_said : Rows.PetriTellsSaid :=
  OpenClaim.holds_of_wide 3 Tryz.f3 rfl rfl rfl rfl rfl rfl rfl ⟨rfl, rfl, rfl, rfl, rfl⟩ rfl rfl rfl rfl rfl (by kernel_rfl) Tryz.func3 (by kernel_rfl)
    (of_decide_eq_true (by kernel_rfl)) (by unfold Func.isWrapper; first | (rw [if_pos (by decide +kernel)]; kernel_rfl) | (rw [if_neg (by decide +kernel)]; exact ⟨rfl, rfl⟩))
    (fun os started H enc _ => petriTells_lifted os started H enc)
theorem petriTells_plain (f : FuncId) (fn : Func) (hf : Tryz.pinned.checked.prog.funcNamed "taquin/taquinlaw18.PetriTells" = some f) (hfn : Tryz.pinned.checked.prog.funcs[f]? = some fn) :
    true = Tryz.pinned.checked.prog.looks [] ∧ ∀ (j : Nat) t, fn.params[j]? = some t → Tryz.pinned.checked.prog.wantsStandIn t = false := by
  obtain rfl : f = 3 := Option.some.inj ((show Tryz.prog.funcNamed "taquin/taquinlaw18.PetriTells" = some 3 by kernel_rfl).symm.trans hf) |>.symm
  obtain rfl : fn = Tryz.f3 := (Option.some.inj (Tryz.func3.symm.trans hfn)).symm
  refine ⟨by kernel_rfl, fun j t ht => ?_⟩
  rw [Tryz.params3] at ht
  have this : t = 24 ∨ t = 25 ∨ t = 25 ∨ t = 25 ∨ t = 3 ∨ t = 9 := by simpa using Array.mem_of_getElem? ht
  rcases this with rfl | rfl | rfl | rfl | rfl | rfl
  · exact (show Tryz.prog.wantsStandIn 24 = false by kernel_rfl)
  · exact (show Tryz.prog.wantsStandIn 25 = false by kernel_rfl)
  · exact (show Tryz.prog.wantsStandIn 25 = false by kernel_rfl)
  · exact (show Tryz.prog.wantsStandIn 25 = false by kernel_rfl)
  · exact (show Tryz.prog.wantsStandIn 3 = false by kernel_rfl)
  · exact (show Tryz.prog.wantsStandIn 9 = false by kernel_rfl)
theorem petriTells_holds : Rows.PetriTellsCardSaid :=
  Claim7.holds_tied_plain_at .later [] _ _ _ _ petriTells_said (fun _ h => by cases h) (by kernel_rfl) (fun _ h => by cases h) petriTells_row_tie rfl ⟨rfl, rfl⟩ (by kernel_rfl) rfl petriTells_plain (by kernel_rfl)
#print axioms petriTells_holds
end Go.Proofs.YteljfpcmpdpehaaGreatDoor
