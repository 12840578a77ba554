
/- THE LAW: a siphon that is without marks stays so, and a trap that has a mark keeps one, at every moment: PetriKeeps returns true for every input. Condition: the listed package-level variables of Go's library hold what its text lays; the card ties them. -/
import Derived.Test.YtbbogflibekgfaaDoorPetX
import Derived.Test.YtbbogflibekgfaaDoorPetTied
set_option linter.unusedSimpArgs false
set_option linter.unusedVariables false
namespace Go.Proofs.YtbbogflibekgfaaDoor
open Go.RowKit Go.IntWalk Go.ChangeShapes Go.WideShapes Go.ChangeAt Go.WideElems

theorem petriKeeps_read : ∀ t ∈ Tryd.f4.params.toList, Tryd.prog.readableRec t = true ∧ t < Tryd.prog.types.size := by
  intro t ht
  have : t = 24 ∨ t = 25 ∨ t = 3 ∨ t = 25 := by
    rw [Tryd.params4] at ht; simpa using ht
  rcases this with rfl | rfl | rfl | rfl
  · exact ⟨by kernel_rfl, of_decide_eq_true (by kernel_rfl)⟩
  · exact ⟨by kernel_rfl, of_decide_eq_true (by kernel_rfl)⟩
  · exact ⟨by kernel_rfl, of_decide_eq_true (by kernel_rfl)⟩
  · exact ⟨by kernel_rfl, of_decide_eq_true (by kernel_rfl)⟩

set_option maxRecDepth 100000 in
theorem petriKeeps_lifted (os : Os) (started : os.Started) (H : Type) (enc : TypeId × Value → H) :
    ReturnsInHanded {} Tryd.checked os 4 .any (fun w args => (Rows.petriKeepsSpec.pre enc Tryd.prog Tryd.f4 [] false w args ∧ laidMetH Tryd.prog laid5 w) ∧ sizedMet enc Tryd.prog Tryd.f4 (OpenSpec.ofChange Rows.petriKeepsSpec) false w args)
      (Rows.petriKeepsSpec.post enc Tryd.prog Tryd.f4 false true false false) := by
  refine returnsInHanded_of_change_and (C := Tryd.checked) (X := fun w _ => laidMetH Tryd.prog laid5 w) (fun w w' args hh h => met_heap (w := w) (w' := w') hh h) own started (by kernel_rfl) Tryd.func4
    (ChangeSpec.witness_shaped (enc := enc) (C := Tryd.checked) (os := os) (X := fun w _ => laidMetH Tryd.prog laid5 w) false (World.doorLaid Tryd.prog 65 os) #[.agg #[.int .i64 0, .slice none 0 0], .slice none 0 0, .int .i64 0, .slice none 0 0] 8 rfl (World.shaped_of_RefB (by kernel_rfl) (by kernel_rfl)) (by kernel_rfl) (by kernel_rfl) (by kernel_rfl) (door_met os _)) ?_
  intro W base args ds gs before hval0 hW _ _ hL _
  refine post_law (C := Tryd.checked) (f := 4) (fn := Tryd.f4) (s := Rows.petriKeepsSpec) (tb := 4) H enc laidOut rfl Tryd.underlying4 rfl petriKeeps_read (by
      intro ds hd
      match ds, hd with
      | [d0, d1, d2, d3], _ => rfl) hW ?_
  intro p hA
  have hval : ∀ (j : Nat) t v, Tryd.f4.params[j]? = some t → args[j]? = some v → Value.okWide Tryd.prog W .any base t v := hval0
  have hA : DataW.TrodAll enc Tryd.prog W 0 (fun _ => true) true Tryd.f4.params.toList args.toList ds p := hA
  rw [Tryd.params4] at hA hval
  obtain ⟨v0, v1, v2, v3, d0, d1, d2, d3, p0_, p1_, p2_, p3_, rfl, rfl, rfl, h0, h1, h2, h3⟩ := trodAll_four hA
  obtain ⟨cs0, x0, rfl, r0⟩ := arg_struct Tryd.underlying24 opNet (hval 0 _ _ rfl rfl) h0
  obtain ⟨A0, c0, rfl, k0, s0⟩ := net_rep r0
  obtain ⟨A1, c1, l1, rfl, p11, p12, p13⟩ := arg_slice Tryd.underlying25 opInts (hval 1 _ _ rfl rfl) h1
  obtain ⟨n2, rfl, p2⟩ := arg_int Tryd.underlying3 (hval 2 _ _ rfl rfl) h2
  obtain ⟨A3, c3, l3, rfl, p31, p32, p33⟩ := arg_slice Tryd.underlying25 opInts (hval 3 _ _ rfl rfl) h3
  exact pkeeps_any x0.1 A0 c0 x0.2 A1 c1 l1 n2 A3 c3 l3 W k0 s0 (Nat.le_trans p11 p12) p13 (Nat.le_trans p31 p32) p33 (env_of hL)

theorem petriKeeps_said : Rows.PetriKeepsSaid :=
  OpenClaim.holds_of_wide 4 Tryd.f4 rfl rfl rfl rfl rfl rfl rfl ⟨rfl, rfl, rfl, rfl, rfl⟩ rfl rfl rfl rfl rfl (by kernel_rfl) Tryd.func4 (by kernel_rfl)
    (of_decide_eq_true (by kernel_rfl)) (by unfold Func.isWrapper; first | (rw [if_pos (by decide +kernel)]; kernel_rfl) | (rw [if_neg (by decide +kernel)]; exact ⟨rfl, rfl⟩))
    (fun os started H enc _ => petriKeeps_lifted os started H enc)
theorem petriKeeps_plain (f : FuncId) (fn : Func) (hf : Tryd.pinned.checked.prog.funcNamed "taquin/taquinlaw18.PetriKeeps" = some f) (hfn : Tryd.pinned.checked.prog.funcs[f]? = some fn) :
    false = Tryd.pinned.checked.prog.looks [] ∧ ∀ (j : Nat) t, fn.params[j]? = some t → Tryd.pinned.checked.prog.wantsStandIn t = false := by
  obtain rfl : f = 4 := Option.some.inj ((show Tryd.prog.funcNamed "taquin/taquinlaw18.PetriKeeps" = some 4 by kernel_rfl).symm.trans hf) |>.symm
  obtain rfl : fn = Tryd.f4 := (Option.some.inj (Tryd.func4.symm.trans hfn)).symm
  refine ⟨by kernel_rfl, fun j t ht => ?_⟩
  rw [Tryd.params4] at ht
  have this : t = 24 ∨ t = 25 ∨ t = 3 ∨ t = 25 := by simpa using Array.mem_of_getElem? ht
  rcases this with rfl | rfl | rfl | rfl
  · exact (show Tryd.prog.wantsStandIn 24 = false by kernel_rfl)
  · exact (show Tryd.prog.wantsStandIn 25 = false by kernel_rfl)
  · exact (show Tryd.prog.wantsStandIn 3 = false by kernel_rfl)
  · exact (show Tryd.prog.wantsStandIn 25 = false by kernel_rfl)
theorem petriKeeps_holds : Rows.PetriKeepsCardSaid :=
  Claim7.holds_tied_plain_at .later [] _ _ _ _ petriKeeps_said (fun _ h => by cases h) (by kernel_rfl) (fun _ h => by cases h) petriKeeps_row_tie rfl ⟨rfl, rfl⟩ (by kernel_rfl) rfl petriKeeps_plain (by kernel_rfl)
#print axioms petriKeeps_holds
end Go.Proofs.YtbbogflibekgfaaDoor
