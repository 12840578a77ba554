
/- LayoutTells: its nine arguments, opened. -/
import Derived.Test.YtgbgcmhmlnmklaaGreatDoorTied
import Derived.Test.YtgbgcmhmlnmklaaGreatDoorLytN0
set_option linter.unusedSimpArgs false
set_option linter.unusedVariables false
namespace Go.Proofs.YtgbgcmhmlnmklaaGreatDoor
open Go.RowKit Go.IntWalk Go.ChangeShapes Go.WideShapes

set_option maxRecDepth 100000 in
theorem opBool : Opens Tryz.prog 4 Bool := opens_bool Tryz.underlying4 (by kernel_rfl)
set_option maxRecDepth 100000 in
theorem opBools : Opens Tryz.prog 25 (List Bool) := opens_list Tryz.underlying25 (by kernel_rfl) (by decide) opBool
set_option maxRecDepth 100000 in
theorem opFloor : Opens Tryz.prog 24 (Int × Int × Int × List Int × List Int) :=
  opens_struct Tryz.underlying24 (by kernel_rfl) (opensFs_cons opInt rfl (opensFs_cons opInt rfl (opensFs_cons opInt rfl (opensFs_cons opInts rfl (opensFs_one opInts rfl)))))
set_option maxRecDepth 100000 in
theorem opLayout : Opens Tryz.prog 27 (List Bool × Int) :=
  opens_struct Tryz.underlying27 (by kernel_rfl) (opensFs_cons opBools rfl (opensFs_one opInt rfl))
set_option maxRecDepth 100000 in
theorem opShift : Opens Tryz.prog 29 (Int × Int) :=
  opens_struct Tryz.underlying29 (by kernel_rfl) (opensFs_cons opInt rfl (opensFs_one opInt rfl))
theorem shift_rep {w : World} {B : Nat} {cs : List Value} {x : Int × Int} (h : Rep.rep w B cs x) : cs = [.int .i64 x.1, .int .i64 x.2] := by
  obtain ⟨c1, c2, rfl, _, _, ⟨rfl, _⟩, rfl, _⟩ := h
  rfl
theorem layout_rep {w : World} {B : Nat} {cs : List Value} {x : List Bool × Int} (h : Rep.rep w B cs x) : ∃ A c, cs = [.slice A x.1.length c, .int .i64 x.2] ∧ x.1.length ≤ maxLen ∧ SlR w B A x.1 ∧ I64 x.2 := by
  obtain ⟨c1, c2, rfl, _, _, ⟨A, c, rfl, h1, h2, h3⟩, rfl, h0⟩ := h
  exact ⟨A, c, rfl, Nat.le_trans h1 h2, h3, h0⟩
theorem floor_rep {w : World} {B : Nat} {cs : List Value} {x : Int × Int × Int × List Int × List Int} (h : Rep.rep w B cs x) : ∃ Ak Ao ck co, cs = [.int .i64 x.1, .int .i64 x.2.1, .int .i64 x.2.2.1, .slice Ak x.2.2.2.1.length ck, .slice Ao x.2.2.2.2.length co] ∧ x.2.2.2.1.length ≤ maxLen ∧ x.2.2.2.2.length ≤ maxLen ∧ SlR w B Ak x.2.2.2.1 ∧ SlR w B Ao x.2.2.2.2 := by
  obtain ⟨c1, c2, rfl, _, _, ⟨rfl, _⟩, c3, c4, rfl, _, _, ⟨rfl, _⟩, c5, c6, rfl, _, _, ⟨rfl, _⟩, c7, c8, rfl, _, _, ⟨A, c, rfl, h1, h2, h3⟩, A', c', rfl, h4, h5, h6⟩ := h
  exact ⟨A, A', c, c', rfl, Nat.le_trans h1 h2, Nat.le_trans h4 h5, h3, h6⟩
section
variable {H : Type} {enc : TypeId × Value → H} {P : Program} {w : World} {base : Nat} {spare : Nat → Bool} {held : Bool}
theorem trodAll_nine {t0 t1 t2 t3 t4 t5 t6 t7 t8 : TypeId} {args : Array Value} {ds : List (DataW H)} {ps : List MemPlace} (h : DataW.TrodAll enc P w base spare held [t0, t1, t2, t3, t4, t5, t6, t7, t8] args.toList ds ps) :
    ∃ v0 v1 v2 v3 v4 v5 v6 v7 v8 d0 d1 d2 d3 d4 d5 d6 d7 d8 p0 p1 p2 p3 p4 p5 p6 p7 p8, args = #[v0, v1, v2, v3, v4, v5, v6, v7, v8] ∧ ds = [d0, d1, d2, d3, d4, d5, d6, d7, d8] ∧ ps = p0 ++ (p1 ++ (p2 ++ (p3 ++ (p4 ++ (p5 ++ (p6 ++ (p7 ++ p8))))))) ∧ DataW.Trod enc P w base spare held t0 v0 d0 p0 ∧ DataW.Trod enc P w base spare held t1 v1 d1 p1 ∧ DataW.Trod enc P w base spare held t2 v2 d2 p2 ∧ DataW.Trod enc P w base spare held t3 v3 d3 p3 ∧ DataW.Trod enc P w base spare held t4 v4 d4 p4 ∧ DataW.Trod enc P w base spare held t5 v5 d5 p5 ∧ DataW.Trod enc P w base spare held t6 v6 d6 p6 ∧ DataW.Trod enc P w base spare held t7 v7 d7 p7 ∧ DataW.Trod enc P w base spare held t8 v8 d8 p8 := by
  obtain ⟨v0, vs0, d0, ds0, p0, q0, hargs, rfl, rfl, h0, r0⟩ := trodAll_cons h
  obtain ⟨v1, vs1, d1, ds1, p1, q1, rfl, rfl, rfl, h1, r1⟩ := trodAll_cons r0
  obtain ⟨v2, vs2, d2, ds2, p2, q2, rfl, rfl, rfl, h2, r2⟩ := trodAll_cons r1
  obtain ⟨v3, vs3, d3, ds3, p3, q3, rfl, rfl, rfl, h3, r3⟩ := trodAll_cons r2
  obtain ⟨v4, vs4, d4, ds4, p4, q4, rfl, rfl, rfl, h4, r4⟩ := trodAll_cons r3
  obtain ⟨v5, vs5, d5, ds5, p5, q5, rfl, rfl, rfl, h5, r5⟩ := trodAll_cons r4
  obtain ⟨v6, vs6, d6, ds6, p6, q6, rfl, rfl, rfl, h6, r6⟩ := trodAll_cons r5
  obtain ⟨v7, vs7, d7, ds7, p7, q7, rfl, rfl, rfl, h7, r7⟩ := trodAll_cons r6
  obtain ⟨v8, vs8, d8, ds8, p8, q8, rfl, rfl, rfl, h8, r8⟩ := trodAll_cons r7
  obtain ⟨rfl, rfl, rfl⟩ := trodAll_nil r8
  exact ⟨v0, v1, v2, v3, v4, v5, v6, v7, v8, d0, d1, d2, d3, d4, d5, d6, d7, d8, p0, p1, p2, p3, p4, p5, p6, p7, p8, by cases args; simp_all, rfl, by simp, h0, h1, h2, h3, h4, h5, h6, h7, h8⟩
end
end Go.Proofs.YtgbgcmhmlnmklaaGreatDoor
