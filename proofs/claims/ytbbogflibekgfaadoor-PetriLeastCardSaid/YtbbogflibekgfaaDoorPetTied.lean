
/- Petri: what the rows list holds, and the frame of a tied law's proof; arguments, opened. -/
import Derived.Test.YtbbogflibekgfaaDoorCards
import Derived.Test.YtbbogflibekgfaaDoorTie
import Derived.Test.YtbbogflibekgfaaDoorOpen
import Derived.Test.YtbbogflibekgfaaDoorPetF
import Derived.LaidMore
import Derived.Stop.Joined
import Derived.Lib.LaidTab
set_option linter.unusedSimpArgs false
set_option linter.unusedVariables false
namespace Go.Proofs.YtbbogflibekgfaaDoor
open Go.Shelf Go.RowKit Go.IntWalk Go.ChangeShapes Go.WideShapes Go.ChangeAt Go.WideElems

theorem own : ownKnob Tryd.prog.godebug = none := by kernel_rfl
theorem laidOut : laidOutB Tryd.prog = true := by kernel_rfl
def laid5 : List (String × DataW Unit) := [("math/bits.deBruijn64tab", Rows.laid_math_bits_deBruijn64tab)]

theorem tab_at {P : Program} {w : World} {name : String} {zs : List Nat} {g : Nat} (hg : P.globalNamed name = some g) (h : Lib.TabIs P w name .u8 (zs.map (fun (x : Nat) => (x : Int)))) : TabAt g zs w := by
  intro j hj
  unfold Lib.TabIs World.var? at h
  rw [hg] at h
  simp only [Option.bind_some] at h
  have hh : ∃ t fz, w.heap[g]? = some (.cells ((zs.map (fun (x : Nat) => (x : Int))).map fun z => Value.int .u8 z).toArray t fz) := by
    split at h
    · rename_i cs t fz hh
      simp only [Option.some.injEq] at h
      subst h
      exact ⟨_, _, hh⟩
    · cases h
  obtain ⟨t, fz, hh⟩ := hh
  unfold World.cell?
  simp only [hh]
  simp [hj]
theorem env_of {W : World} (h : laidMetH Tryd.prog laid5 W) : Env W := by
  rw [MakeChecks.laidMetH_plain _ _ _ (by kernel_rfl)] at h
  exact tab_at (by kernel_rfl) (Lib.tabIs_of_head (g := 0) (t := 90) (e := 5) (n := 64) (by kernel_rfl) (by kernel_rfl) Tryd.underlying90 Tryd.underlying5 (by kernel_rfl) (by kernel_rfl) h)

theorem opInt : Opens Tryd.prog 3 Int := opens_int Tryd.underlying3 (by kernel_rfl)
theorem opInts : Opens Tryd.prog 25 (List Int) := opens_list Tryd.underlying25 (by kernel_rfl) (by decide) opInt
theorem opTrans : Opens Tryd.prog 29 Tr := opens_struct Tryd.underlying29 (by kernel_rfl) (opensFs_cons opInts rfl (opensFs_one opInts rfl))
theorem opTs : Opens Tryd.prog 22 (List Tr) := opens_list Tryd.underlying22 (by kernel_rfl) (by decide) opTrans
theorem opNet : Opens Tryd.prog 24 Net := opens_struct Tryd.underlying24 (by kernel_rfl) (opensFs_cons opInt rfl (opensFs_one opTs rfl))
theorem net_rep {w : World} {cs : List Value} {x : Net} (h : Rep.rep w w.heap.size cs x) : ∃ A c, cs = [.int .i64 x.1, .slice A x.2.length c] ∧ x.2.length ≤ maxLen ∧ SlR w w.heap.size A x.2 := by
  obtain ⟨c1, c2, rfl, _, _, ⟨rfl, i0⟩, A, c, rfl, h1, h2, h3⟩ := h
  exact ⟨A, c, rfl, Nat.le_trans h1 h2, h3⟩
/-- A LAW's end: it returned true, and nothing that was there has changed. -/
theorem post_law {C : Checked} {f : FuncId} {fn : Func} {s : ChangeSpec} {tb : TypeId} (H : Type) (enc : TypeId × Value → H) (hlaid : laidOutB C.prog = true)
    (hres : fn.resultTypes = #[tb]) (hub : C.prog.underlying tb = some .bool) (hvars : s.vars = []) (hread : ∀ t ∈ fn.params.toList, C.prog.readableRec t = true ∧ t < C.prog.types.size)
    (hs : ∀ ds : List (DataW H), ds.length = fn.params.toList.length → s.fn H ds = { results := [.lit (.bool true)], args := ds })
    {W : World} {args : Array Value} {ds gs : List (DataW H)} {before : List MemPlace} (hW : DataW.Whole enc C.prog fn.params.toList s.vars false W args.toList ds gs before)
    (contract : ∀ p, DataW.TrodAll enc C.prog W 0 (fun _ => true) true fn.params.toList args.toList ds p → Calls C.prog f args W fun e W' => e = .returned (.bool true) ∧ Below W.heap.size W W') :
    Calls C.prog f args W fun e W' => ∃ v, e = .returned v ∧ s.post enc C.prog fn false true false false W args v W' := by
  have hW' := hW
  obtain ⟨p, q, hA, hV, rfl, hfz, hnd⟩ := hW
  rw [hvars] at hV
  obtain ⟨rfl, rfl⟩ := trodVars_none hV
  have hlen := trodAll_length _ _ _ _ hA
  refine (contract p hA).mono fun e W' ⟨he, hb⟩ => ⟨_, he, ?_⟩
  have hlt : ∀ x ∈ p ++ [], x.block < W.heap.size := fun x hx => hW'.lt x hx
  rw [List.append_nil] at hlt
  refine ⟨ds, [], p ++ [], [], p, [], hW', ?_, ?_, ?_, ?_, fun h => by cases h⟩
  · rw [List.append_nil, hs ds hlen, hres]
    exact ⟨[], [], ⟨1, by simp [DataW.trod, Value.cells, hub]⟩, rfl, rfl⟩
  · rw [List.append_nil, hs ds hlen]
    exact trodAll_stays hlaid _ _ _ _ hread hA (fun x hx => hb.same (hlt x hx)) (fun x hx => by simpa using hlt x hx)
  · rw [hvars, List.append_nil, hs ds hlen]; rfl
  · exact World.keptBut_mono (fun x hx => ⟨hx, .inr (.inl (by simpa using hx))⟩) (hb.frame (· ∈ p ++ []))
theorem door_met (os : Os) (args : Array Value) : laidMetH Tryd.prog laid5 ((World.doorLaid Tryd.prog 65 os).forCall (fun _ _ => 0) ⟨#[], args, []⟩).memory :=
  laidMetH_of_parts3 (fuel := 8) (laidMet_of_run' 8 (by kernel_rfl) (by kernel_rfl)) (by kernel_rfl) (by kernel_rfl)
theorem met_heap {w w' : World} (hh : w.heap = w'.heap) (h : laidMetH Tryd.prog laid5 w) : laidMetH Tryd.prog laid5 w' := h.of_heap hh
end Go.Proofs.YtbbogflibekgfaaDoor
