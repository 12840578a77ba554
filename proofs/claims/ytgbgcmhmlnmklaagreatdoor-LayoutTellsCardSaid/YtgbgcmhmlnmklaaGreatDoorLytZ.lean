
/- THE LAW: Right, Same, Shelves, Count, Unrank and Read return what the reference returns; for right layouts Rank, Do and Bytes too, and for regions on right floors Shifts and Backs: LayoutTells returns true for every input. Condition: the listed package-level variables of Go's library hold what its text lays; the card ties them. -/
import Derived.Test.YtgbgcmhmlnmklaaGreatDoorLytN3
import Derived.Test.YtgbgcmhmlnmklaaGreatDoorLytOw
set_option linter.unusedSimpArgs false
set_option linter.unusedVariables false
namespace Go.Proofs.YtgbgcmhmlnmklaaGreatDoor
open Go.RowKit Go.IntWalk Go.ChangeShapes Go.WideShapes Go.ChangeAt Go.WideElems

theorem layoutTells_read : ∀ t ∈ Tryz.f3.params.toList, Tryz.prog.readableRec t = true ∧ t < Tryz.prog.types.size := by
  intro t ht
  have : t = 24 ∨ t = 22 ∨ t = 27 ∨ t = 27 ∨ t = 29 ∨ t = 3 ∨ t = 3 ∨ t = 3 ∨ t = 9 := by
    rw [Tryz.params3] at ht; simpa using ht
  rcases this with rfl | rfl | rfl | rfl | rfl | rfl | rfl | rfl | rfl
  · exact ⟨by kernel_rfl, of_decide_eq_true (by kernel_rfl)⟩
  · exact ⟨by kernel_rfl, of_decide_eq_true (by kernel_rfl)⟩
  · exact ⟨by kernel_rfl, of_decide_eq_true (by kernel_rfl)⟩
  · exact ⟨by kernel_rfl, of_decide_eq_true (by kernel_rfl)⟩
  · exact ⟨by kernel_rfl, of_decide_eq_true (by kernel_rfl)⟩
  · exact ⟨by kernel_rfl, of_decide_eq_true (by kernel_rfl)⟩
  · exact ⟨by kernel_rfl, of_decide_eq_true (by kernel_rfl)⟩
  · exact ⟨by kernel_rfl, of_decide_eq_true (by kernel_rfl)⟩
  · exact ⟨by kernel_rfl, of_decide_eq_true (by kernel_rfl)⟩

set_option maxRecDepth 100000 in
theorem layoutTells_lifted (os : Os) (started : os.Started) (H : Type) (enc : TypeId × Value → H) :
    ReturnsInHanded {} Tryz.checked os 3 .any (fun w args => (Rows.layoutTellsSpec.pre enc Tryz.prog Tryz.f3 [] false w args ∧ laidMetH Tryz.prog laid5 w) ∧ sizedMet enc Tryz.prog Tryz.f3 (OpenSpec.ofChange Rows.layoutTellsSpec) false w args)
      (Rows.layoutTellsSpec.post enc Tryz.prog Tryz.f3 false true false false) := by
  refine returnsInHanded_of_change_and (C := Tryz.checked) (X := fun w _ => laidMetH Tryz.prog laid5 w) (fun w w' args hh h => met_heap (w := w) (w' := w') hh h) own started (by kernel_rfl) Tryz.func3
    (ChangeSpec.witness_shaped (enc := enc) (C := Tryz.checked) (os := os) (X := fun w _ => laidMetH Tryz.prog laid5 w) false (World.doorLaid Tryz.prog 62 os) #[.agg #[.int .i64 0, .int .i64 0, .int .i64 0, .slice none 0 0, .slice none 0 0], .slice none 0 0, .agg #[.slice none 0 0, .int .i64 0], .agg #[.slice none 0 0, .int .i64 0], .agg #[.int .i64 0, .int .i64 0], .int .i64 0, .int .i64 0, .int .i64 0, .string ⟨#[]⟩] 8 rfl (World.shaped_of_RefB (by kernel_rfl) (by kernel_rfl)) (by kernel_rfl) (by kernel_rfl) (by kernel_rfl) (door_met os _)) ?_
  intro W base args ds gs before hval0 hW _ _ hL _
  refine post_law (C := Tryz.checked) (f := 3) (fn := Tryz.f3) (s := Rows.layoutTellsSpec) (tb := 4) H enc laidOut rfl Tryz.underlying4 rfl layoutTells_read (by
      intro ds hd
      match ds, hd with
      | [d0, d1, d2, d3, d4, d5, d6, d7, d8], _ => rfl) hW ?_
  intro p hA
  have hval : ∀ (j : Nat) t v, Tryz.f3.params[j]? = some t → args[j]? = some v → Value.okWide Tryz.prog W .any base t v := hval0
  have hA : DataW.TrodAll enc Tryz.prog W 0 (fun _ => true) true Tryz.f3.params.toList args.toList ds p := hA
  rw [Tryz.params3] at hA hval
  obtain ⟨v0, v1, v2, v3, v4, v5, v6, v7, v8, d0, d1, d2, d3, d4, d5, d6, d7, d8, p0_, p1_, p2_, p3_, p4_, p5_, p6_, p7_, p8_, rfl, rfl, rfl, h0, h1, h2, h3, h4, h5, h6, h7, h8⟩ := trodAll_nine hA
  obtain ⟨cs0, x0, rfl, r0⟩ := arg_struct Tryz.underlying24 opFloor (hval 0 _ _ rfl rfl) h0
  obtain ⟨Ak, Ao, ck, co, rfl, hl1, hl2, hs1, hs2⟩ := floor_rep r0
  obtain ⟨A1, c1, l1, rfl, p11, p12, p13⟩ := arg_slice Tryz.underlying22 opInts (hval 1 _ _ rfl rfl) h1
  obtain ⟨cs2, x2, rfl, r2⟩ := arg_struct Tryz.underlying27 opLayout (hval 2 _ _ rfl rfl) h2
  obtain ⟨A2, c2, rfl, p21, p22, p23⟩ := layout_rep r2
  obtain ⟨cs3, x3, rfl, r3⟩ := arg_struct Tryz.underlying27 opLayout (hval 3 _ _ rfl rfl) h3
  obtain ⟨A3, c3, rfl, p31, p32, p33⟩ := layout_rep r3
  obtain ⟨cs4, x4, rfl, r4⟩ := arg_struct Tryz.underlying29 opShift (hval 4 _ _ rfl rfl) h4
  obtain rfl := shift_rep r4
  obtain ⟨n5, rfl, p5⟩ := arg_int Tryz.underlying3 (hval 5 _ _ rfl rfl) h5
  obtain ⟨n6, rfl, p6⟩ := arg_int Tryz.underlying3 (hval 6 _ _ rfl rfl) h6
  obtain ⟨n7, rfl, p7⟩ := arg_int Tryz.underlying3 (hval 7 _ _ rfl rfl) h7
  obtain ⟨s8, rfl, p8⟩ := arg_str Tryz.underlying9 (hval 8 _ _ rfl rfl) h8
  exact ltells_any _ _ _ Ak Ao ck co _ _ A1 A2 A3 c1 c2 c3 l1 _ _ _ _ _ _ n5 n6 n7 s8 W hl1 hl2 (Nat.le_trans p11 p12) p21 p31 hs1 hs2 p13 p22 p32 (env_of hL)

theorem layoutTells_said : Rows.LayoutTellsSaid :=
  OpenClaim.holds_of_wide 3 Tryz.f3 rfl rfl rfl rfl rfl rfl rfl ⟨rfl, rfl, rfl, rfl, rfl⟩ rfl rfl rfl rfl rfl (by kernel_rfl) Tryz.func3 (by kernel_rfl)
    (of_decide_eq_true (by kernel_rfl)) (by unfold Func.isWrapper; first | (rw [if_pos (by decide +kernel)]; kernel_rfl) | (rw [if_neg (by decide +kernel)]; exact ⟨rfl, rfl⟩))
    (fun os started H enc _ => layoutTells_lifted os started H enc)
theorem layoutTells_plain (f : FuncId) (fn : Func) (hf : Tryz.pinned.checked.prog.funcNamed "taquin/taquinlaw25.LayoutTells" = some f) (hfn : Tryz.pinned.checked.prog.funcs[f]? = some fn) :
    true = Tryz.pinned.checked.prog.looks [] ∧ ∀ (j : Nat) t, fn.params[j]? = some t → Tryz.pinned.checked.prog.wantsStandIn t = false := by
  obtain rfl : f = 3 := Option.some.inj ((show Tryz.prog.funcNamed "taquin/taquinlaw25.LayoutTells" = some 3 by kernel_rfl).symm.trans hf) |>.symm
  obtain rfl : fn = Tryz.f3 := (Option.some.inj (Tryz.func3.symm.trans hfn)).symm
  refine ⟨by kernel_rfl, fun j t ht => ?_⟩
  rw [Tryz.params3] at ht
  have this : t = 24 ∨ t = 22 ∨ t = 27 ∨ t = 27 ∨ t = 29 ∨ t = 3 ∨ t = 3 ∨ t = 3 ∨ t = 9 := by simpa using Array.mem_of_getElem? ht
  rcases this with rfl | rfl | rfl | rfl | rfl | rfl | rfl | rfl | rfl
  · exact (show Tryz.prog.wantsStandIn 24 = false by kernel_rfl)
  · exact (show Tryz.prog.wantsStandIn 22 = false by kernel_rfl)
  · exact (show Tryz.prog.wantsStandIn 27 = false by kernel_rfl)
  · exact (show Tryz.prog.wantsStandIn 27 = false by kernel_rfl)
  · exact (show Tryz.prog.wantsStandIn 29 = false by kernel_rfl)
  · exact (show Tryz.prog.wantsStandIn 3 = false by kernel_rfl)
  · exact (show Tryz.prog.wantsStandIn 3 = false by kernel_rfl)
  · exact (show Tryz.prog.wantsStandIn 3 = false by kernel_rfl)
  · exact (show Tryz.prog.wantsStandIn 9 = false by kernel_rfl)
theorem layoutTells_holds : Rows.LayoutTellsCardSaid :=
  Claim7.holds_tied_plain_at .later [] _ _ _ _ layoutTells_said (fun _ h => by cases h) (by kernel_rfl) (fun _ h => by cases h) layoutTells_row_tie rfl ⟨rfl, rfl⟩ (by kernel_rfl) rfl layoutTells_plain (by kernel_rfl)
#print axioms layoutTells_holds
end Go.Proofs.YtgbgcmhmlnmklaaGreatDoor
