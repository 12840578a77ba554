
/- PetriTells: its six arguments, opened; the table behind TrailingZeros64. -/
import Derived.Test.YteljfpcmpdpehaaGreatDoorTied
import Derived.Test.YteljfpcmpdpehaaGreatDoorPhJ
set_option linter.unusedSimpArgs false
set_option linter.unusedVariables false
namespace Go.Proofs.YteljfpcmpdpehaaGreatDoor
open Go.Shelf Go.RowKit Go.IntWalk Go.ChangeShapes Go.WideShapes

theorem tab_at {P : Program} {w : World} {name : String} {zs : List Nat} {g : Nat} (hg : P.globalNamed name = some g) (h : Lib.TabIs P w name .u8 (zs.map (fun (x : Nat) => (x : Int)))) : TabAt g zs w := by
  intro j hj
  unfold Lib.TabIs World.var? at h
  rw [hg] at h
  simp only [Option.bind_some] at h
  have hh : ∃ t fz, w.heap[g]? = some (.cells ((zs.map (fun (x : Nat) => (x : Int))).map fun z => Value.int .u8 z).toArray t fz) := by
    split at h
    · rename_i cs t fz hh
      simp only [Option.some.injEq] at h
      subst h
      exact ⟨_, _, hh⟩
    · cases h
  obtain ⟨t, fz, hh⟩ := hh
  unfold World.cell?
  simp only [hh]
  simp [hj]
theorem penv_of {W : World} (h : laidMetH Tryz.prog laid5 W) : PEnv W := by
  rw [MakeChecks.laidMetH_plain _ _ _ (by kernel_rfl)] at h
  exact tab_at (by kernel_rfl) (Lib.tabIs_of_head (g := 0) (t := 112) (e := 5) (n := 64) (by kernel_rfl) (by kernel_rfl) Tryz.underlying112 Tryz.underlying5 (by kernel_rfl) (by kernel_rfl) h.tail)
set_option maxRecDepth 100000 in
theorem opTrans : Opens Tryz.prog 47 Tr := opens_struct Tryz.underlying47 (by kernel_rfl) (opensFs_cons opInts rfl (opensFs_one opInts rfl))
set_option maxRecDepth 100000 in
theorem opTs : Opens Tryz.prog 22 (List Tr) := opens_list Tryz.underlying22 (by kernel_rfl) (by decide) opTrans
set_option maxRecDepth 100000 in
theorem opNet : Opens Tryz.prog 24 Net := opens_struct Tryz.underlying24 (by kernel_rfl) (opensFs_cons opInt rfl (opensFs_one opTs rfl))
theorem net_rep {w : World} {cs : List Value} {x : Net} (h : Rep.rep w w.heap.size cs x) : ∃ A c, cs = [.int .i64 x.1, .slice A x.2.length c] ∧ x.2.length ≤ maxLen ∧ SlR w w.heap.size A x.2 ∧ I64 x.1 := by
  obtain ⟨c1, c2, rfl, _, _, ⟨rfl, i0⟩, A, c, rfl, h1, h2, h3⟩ := h
  exact ⟨A, c, rfl, Nat.le_trans h1 h2, h3, i0⟩
section
variable {H : Type} {enc : TypeId × Value → H} {P : Program} {w : World} {base : Nat} {spare : Nat → Bool} {held : Bool}
theorem trodAll_six {t0 t1 t2 t3 t4 t5 : TypeId} {args : Array Value} {ds : List (DataW H)} {ps : List MemPlace} (h : DataW.TrodAll enc P w base spare held [t0, t1, t2, t3, t4, t5] args.toList ds ps) :
    ∃ v0 v1 v2 v3 v4 v5 d0 d1 d2 d3 d4 d5 p0 p1 p2 p3 p4 p5, args = #[v0, v1, v2, v3, v4, v5] ∧ ds = [d0, d1, d2, d3, d4, d5] ∧ ps = p0 ++ (p1 ++ (p2 ++ (p3 ++ (p4 ++ p5)))) ∧ DataW.Trod enc P w base spare held t0 v0 d0 p0 ∧ DataW.Trod enc P w base spare held t1 v1 d1 p1 ∧ DataW.Trod enc P w base spare held t2 v2 d2 p2 ∧ DataW.Trod enc P w base spare held t3 v3 d3 p3 ∧ DataW.Trod enc P w base spare held t4 v4 d4 p4 ∧ DataW.Trod enc P w base spare held t5 v5 d5 p5 := by
  obtain ⟨v0, vs0, d0, ds0, p0, q0, hargs, rfl, rfl, h0, r0⟩ := trodAll_cons h
  obtain ⟨v1, vs1, d1, ds1, p1, q1, rfl, rfl, rfl, h1, r1⟩ := trodAll_cons r0
  obtain ⟨v2, vs2, d2, ds2, p2, q2, rfl, rfl, rfl, h2, r2⟩ := trodAll_cons r1
  obtain ⟨v3, vs3, d3, ds3, p3, q3, rfl, rfl, rfl, h3, r3⟩ := trodAll_cons r2
  obtain ⟨v4, vs4, d4, ds4, p4, q4, rfl, rfl, rfl, h4, r4⟩ := trodAll_cons r3
  obtain ⟨v5, vs5, d5, ds5, p5, q5, rfl, rfl, rfl, h5, r5⟩ := trodAll_cons r4
  obtain ⟨rfl, rfl, rfl⟩ := trodAll_nil r5
  exact ⟨v0, v1, v2, v3, v4, v5, d0, d1, d2, d3, d4, d5, p0, p1, p2, p3, p4, p5, by cases args; simp_all, rfl, by simp, h0, h1, h2, h3, h4, h5⟩
end
end Go.Proofs.YteljfpcmpdpehaaGreatDoor
