
/- THE LAW: if Append returns OK, the list ends with these strings, also after crashes, whichever sectors survive, and however often: JournalStays returns true for every input. Condition: the listed package-level variables of Go's library hold what its text lays; the card ties them. -/
import Derived.Test.YtbefmjodpndndaaDoorJnSt
import Derived.Test.YtbefmjodpndndaaDoorJnTied
set_option linter.unusedSimpArgs false
set_option linter.unusedVariables false
namespace Go.Proofs.YtbefmjodpndndaaDoor
open Go.RowKit Go.IntWalk Go.ChangeShapes Go.WideShapes Go.ChangeAt Go.WideElems

theorem journalStays_read : ∀ t ∈ Tryd.f5.params.toList, Tryd.prog.readableRec t = true ∧ t < Tryd.prog.types.size := by
  intro t ht
  have : t = 45 ∨ t = 36 ∨ t = 46 := by
    rw [Tryd.params5] at ht; simpa using ht
  rcases this with rfl | rfl | rfl
  · exact ⟨by kernel_rfl, of_decide_eq_true (by kernel_rfl)⟩
  · exact ⟨by kernel_rfl, of_decide_eq_true (by kernel_rfl)⟩
  · exact ⟨by kernel_rfl, of_decide_eq_true (by kernel_rfl)⟩

set_option maxRecDepth 100000 in
theorem journalStays_lifted (os : Os) (started : os.Started) (H : Type) (enc : TypeId × Value → H) :
    ReturnsInHanded {} Tryd.checked os 5 .any (fun w args => (Rows.journalStaysSpec.pre enc Tryd.prog Tryd.f5 [] false w args ∧ laidMetH Tryd.prog laid5 w) ∧ sizedMet enc Tryd.prog Tryd.f5 (OpenSpec.ofChange Rows.journalStaysSpec) false w args)
      (Rows.journalStaysSpec.post enc Tryd.prog Tryd.f5 false true false false) := by
  refine returnsInHanded_of_change_and (C := Tryd.checked) (X := fun w _ => laidMetH Tryd.prog laid5 w) (fun w w' args hh h => met_heap (w := w) (w' := w') hh h) own started (by kernel_rfl) Tryd.func5
    (ChangeSpec.witness_shaped (enc := enc) (C := Tryd.checked) (os := os) (X := fun w _ => laidMetH Tryd.prog laid5 w) false (World.doorLaid Tryd.prog 67 os) #[.slice none 0 0, .slice none 0 0, .slice none 0 0, .slice none 0 0] 8 rfl (World.shaped_of_RefB (by kernel_rfl) (by kernel_rfl)) (by kernel_rfl) (by kernel_rfl) (by kernel_rfl) (door_met os _)) ?_
  intro W base args ds gs before hval0 hW _ _ hL _
  refine post_law (C := Tryd.checked) (f := 5) (fn := Tryd.f5) (s := Rows.journalStaysSpec) (tb := 4) H enc laidOut rfl Tryd.underlying4 rfl journalStays_read (by
      intro ds hd
      match ds, hd with
      | [d0, d1, d2, d3], _ => rfl) hW ?_
  intro p hA
  have hval : ∀ (j : Nat) t v, Tryd.f5.params[j]? = some t → args[j]? = some v → Value.okWide Tryd.prog W .any base t v := hval0
  have hA : DataW.TrodAll enc Tryd.prog W 0 (fun _ => true) true Tryd.f5.params.toList args.toList ds p := hA
  rw [Tryd.params5] at hA hval
  obtain ⟨v0, v1, v2, v3, d0, d1, d2, d3, p0_, p1_, p2_, p3_, rfl, rfl, rfl, h0, h1, h2, h3⟩ := trodAll_four hA
  obtain ⟨A0, c0, l0, rfl, p01, p02, p03⟩ := arg_slice Tryd.underlying45 opJops (hval 0 _ _ rfl rfl) h0
  obtain ⟨A1, c1, l1, rfl, p11, p12, p13⟩ := arg_slice Tryd.underlying36 opStrs (hval 1 _ _ rfl rfl) h1
  obtain ⟨A2, c2, l2, rfl, p21, p22, p23⟩ := arg_slice Tryd.underlying46 opInts (hval 2 _ _ rfl rfl) h2
  obtain ⟨A3, c3, l3, rfl, p31, p32, p33⟩ := arg_slice Tryd.underlying46 opInts (hval 3 _ _ rfl rfl) h3
  exact jstays_any A0 A1 A2 A3 c0 c1 c2 c3 l0 l1 l2 l3 W (Nat.le_trans p01 p02) (Nat.le_trans p11 p12) (Nat.le_trans p21 p22) (Nat.le_trans p31 p32) p03 p13 p23 p33 (env_of hL) (off_of hL)

theorem journalStays_said : Rows.JournalStaysSaid :=
  OpenClaim.holds_of_wide 5 Tryd.f5 rfl rfl rfl rfl rfl rfl rfl ⟨rfl, rfl, rfl, rfl, rfl⟩ rfl rfl rfl rfl rfl (by kernel_rfl) Tryd.func5 (by kernel_rfl)
    (of_decide_eq_true (by kernel_rfl)) (by unfold Func.isWrapper; first | (rw [if_pos (by decide +kernel)]; kernel_rfl) | (rw [if_neg (by decide +kernel)]; exact ⟨rfl, rfl⟩))
    (fun os started H enc _ => journalStays_lifted os started H enc)
theorem journalStays_plain (f : FuncId) (fn : Func) (hf : Tryd.pinned.checked.prog.funcNamed "taquin/taquinlaw05.JournalStays" = some f) (hfn : Tryd.pinned.checked.prog.funcs[f]? = some fn) :
    true = Tryd.pinned.checked.prog.looks [] ∧ ∀ (j : Nat) t, fn.params[j]? = some t → Tryd.pinned.checked.prog.wantsStandIn t = false := by
  obtain rfl : f = 5 := Option.some.inj ((show Tryd.prog.funcNamed "taquin/taquinlaw05.JournalStays" = some 5 by kernel_rfl).symm.trans hf) |>.symm
  obtain rfl : fn = Tryd.f5 := (Option.some.inj (Tryd.func5.symm.trans hfn)).symm
  refine ⟨by kernel_rfl, fun j t ht => ?_⟩
  rw [Tryd.params5] at ht
  have this : t = 45 ∨ t = 36 ∨ t = 46 := by simpa using Array.mem_of_getElem? ht
  rcases this with rfl | rfl | rfl
  · exact (show Tryd.prog.wantsStandIn 45 = false by kernel_rfl)
  · exact (show Tryd.prog.wantsStandIn 36 = false by kernel_rfl)
  · exact (show Tryd.prog.wantsStandIn 46 = false by kernel_rfl)
theorem journalStays_holds : Rows.JournalStaysCardSaid :=
  Claim7.holds_tied_plain_at .later [] _ _ _ _ journalStays_said (fun _ h => by cases h) (by kernel_rfl) (fun _ h => by cases h) journalStays_row_tie rfl ⟨rfl, rfl⟩ (by kernel_rfl) rfl journalStays_plain (by kernel_rfl)
#print axioms journalStays_holds
end Go.Proofs.YtbefmjodpndndaaDoor
