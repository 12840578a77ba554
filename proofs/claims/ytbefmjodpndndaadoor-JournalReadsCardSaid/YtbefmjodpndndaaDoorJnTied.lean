
/- Journal: what the rows list holds, and the frame of a tied law's proof; arguments, opened. -/
import Derived.Test.YtbefmjodpndndaaDoorCards
import Derived.Test.YtbefmjodpndndaaDoorTie
import Derived.Test.YtbefmjodpndndaaDoorOpen
import Derived.Test.YtbefmjodpndndaaDoorJoG
import Derived.LaidMore
import Derived.Stop.Joined
import Derived.Stop.LaidErr
import Derived.Lib.LaidTab
set_option linter.unusedSimpArgs false
set_option linter.unusedVariables false
namespace Go.Proofs.YtbefmjodpndndaaDoor
open Go.RowKit Go.IntWalk Go.ChangeShapes Go.WideShapes Go.ChangeAt Go.WideElems

theorem own : ownKnob Tryd.prog.godebug = none := by kernel_rfl
theorem laidOut : laidOutB Tryd.prog = true := by kernel_rfl
def laid5 : List (String × DataW Unit) := [("math/bits.deBruijn32tab", Rows.laid_math_bits_deBruijn32tab), ("math/bits.deBruijn64tab", Rows.laid_math_bits_deBruijn64tab), ("internal/strconv.uint64pow10", Rows.laid_internal_strconv_uint64pow10), ("strconv.ErrRange", Rows.laid_strconv_ErrRange), ("strconv.ErrSyntax", Rows.laid_strconv_ErrSyntax), ("taquin/cell.offsets", Rows.laid_taquin_cell_offsets)]

theorem starE : ("*errors.errorString" : String) = "*" ++ "errors.errorString" := by decide
theorem rowE (u : TypeId) (h : Tryd.prog.typeName? 3 u = some "*errors.errorString") : u = 140 :=
  typeName_ptr_named (nm := "errors.errorString") (by rw [← starE]; kernel_rfl) (by kernel_rfl) (by decide) u (by rw [← starE]; exact h)
theorem env_of {W : World} (h : laidMetH Tryd.prog laid5 W) : Env W := by
  rw [MakeChecks.laidMetH_plain _ _ _ (by kernel_rfl)] at h
  have h3 := h.tail.tail
  have hs := h3.tail
  have ht := hs.tail
  refine ⟨?_, ?_, ?_⟩
  · exact Lib.tabIs_of_head (g := 1) (t := 127) (e := 110) (n := 20) (by kernel_rfl) (by kernel_rfl) Tryd.underlying127 Tryd.underlying110 (by kernel_rfl) (by kernel_rfl) h3
  · obtain ⟨a, t, h1, _⟩ := laid_sentinel ht (g := 3) (ti := 92) (te := 142) (ts := 9) (by kernel_rfl) (by kernel_rfl) Tryd.underlying92 rowE Tryd.underlying140 Tryd.underlying142 rfl rfl Tryd.underlying9 (by kernel_rfl) (by kernel_rfl)
    exact ⟨_, _, h1⟩
  · obtain ⟨a, t, h1, _⟩ := laid_sentinel hs (g := 4) (ti := 92) (te := 142) (ts := 9) (by kernel_rfl) (by kernel_rfl) Tryd.underlying92 rowE Tryd.underlying140 Tryd.underlying142 rfl rfl Tryd.underlying9 (by kernel_rfl) (by kernel_rfl)
    exact ⟨_, _, h1⟩

theorem off_of {W : World} (h : laidMetH Tryd.prog laid5 W) : OffE W := by
  rw [MakeChecks.laidMetH_plain _ _ _ (by kernel_rfl)] at h
  have h6 : laidMet Tryd.prog [("taquin/cell.offsets", Lib.tabData .i64 [0, 64, 131072])] W := h.tail.tail.tail.tail.tail
  have ht := Lib.tabIs_of_head (g := 0) (t := 87) (e := 3) (n := 3) (by kernel_rfl) (by kernel_rfl) Tryd.underlying87 Tryd.underlying3 (by kernel_rfl) (by kernel_rfl) h6
  have hg : Tryd.prog.globalNamed "taquin/cell.offsets" = some 0 := by kernel_rfl
  exact ⟨ht.cell hg 0 (by decide), ht.cell hg 1 (by decide), ht.cell hg 2 (by decide)⟩
theorem opens_str {P : Program} {t : TypeId} (ht : P.underlying t = some .string) (hc : P.cellsOf t = 1) : Opens P t ByteArray := by
  refine ⟨hc, fun h => ?_⟩
  obtain ⟨s, rfl, _, hs⟩ := DataW.trod_string ht h
  exact ⟨s, rfl, hs⟩
set_option maxRecDepth 100000 in
theorem opInt : Opens Tryd.prog 3 Int := opens_int Tryd.underlying3 (by kernel_rfl)
set_option maxRecDepth 100000 in
theorem opStr : Opens Tryd.prog 9 ByteArray := opens_str Tryd.underlying9 (by kernel_rfl)
set_option maxRecDepth 100000 in
theorem opInts : Opens Tryd.prog 46 (List Int) := opens_list Tryd.underlying46 (by kernel_rfl) (by decide) opInt
set_option maxRecDepth 100000 in
theorem opStrs : Opens Tryd.prog 36 (List ByteArray) := opens_list Tryd.underlying36 (by kernel_rfl) (by decide) opStr
set_option maxRecDepth 100000 in
theorem opJop : Opens Tryd.prog 49 Jop := opens_struct Tryd.underlying49 (by kernel_rfl) (opensFs_cons opInt rfl (opensFs_cons opStrs rfl (opensFs_cons opInt rfl (opensFs_one opInts rfl))))
set_option maxRecDepth 100000 in
theorem opJops : Opens Tryd.prog 45 (List Jop) := opens_list Tryd.underlying45 (by kernel_rfl) (by decide) opJop
theorem arg_str {P : Program} {t : TypeId} {H : Type} {enc : TypeId × Value → H} {W : World} {base b0 : Nat} {sp : Nat → Bool} {hd : Bool} {v : Value} {d : DataW H} {p : List MemPlace} (ht : P.underlying t = some .string)
    (hv : Value.okWide P W .any b0 t v) (h : DataW.Trod enc P W base sp hd t v d p) : ∃ s, v = .string s ∧ s.size ≤ maxLen := by
  obtain ⟨n, rfl⟩ := okWide_string ht hv
  obtain ⟨fuel, hf⟩ := h
  obtain ⟨m, hm, _, hw⟩ := DataW.trod_string ht hf
  simp only [Value.cells, List.cons.injEq, and_true, Value.string.injEq] at hm
  exact ⟨n, rfl, by rw [hm]; exact hw⟩
/-- A LAW's end: it returned true, and nothing that was there has changed. -/
theorem post_law {C : Checked} {f : FuncId} {fn : Func} {s : ChangeSpec} {tb : TypeId} (H : Type) (enc : TypeId × Value → H) (hlaid : laidOutB C.prog = true)
    (hres : fn.resultTypes = #[tb]) (hub : C.prog.underlying tb = some .bool) (hvars : s.vars = []) (hread : ∀ t ∈ fn.params.toList, C.prog.readableRec t = true ∧ t < C.prog.types.size)
    (hs : ∀ ds : List (DataW H), ds.length = fn.params.toList.length → s.fn H ds = { results := [.lit (.bool true)], args := ds })
    {W : World} {args : Array Value} {ds gs : List (DataW H)} {before : List MemPlace} (hW : DataW.Whole enc C.prog fn.params.toList s.vars false W args.toList ds gs before)
    (contract : ∀ p, DataW.TrodAll enc C.prog W 0 (fun _ => true) true fn.params.toList args.toList ds p → Calls C.prog f args W fun e W' => e = .returned (.bool true) ∧ Below W.heap.size W W') :
    Calls C.prog f args W fun e W' => ∃ v, e = .returned v ∧ s.post enc C.prog fn false true false false W args v W' := by
  have hW' := hW
  obtain ⟨p, q, hA, hV, rfl, hfz, hnd⟩ := hW
  rw [hvars] at hV
  obtain ⟨rfl, rfl⟩ := trodVars_none hV
  have hlen := trodAll_length _ _ _ _ hA
  refine (contract p hA).mono fun e W' ⟨he, hb⟩ => ⟨_, he, ?_⟩
  have hlt : ∀ x ∈ p ++ [], x.block < W.heap.size := fun x hx => hW'.lt x hx
  rw [List.append_nil] at hlt
  refine ⟨ds, [], p ++ [], [], p, [], hW', ?_, ?_, ?_, ?_, fun h => by cases h⟩
  · rw [List.append_nil, hs ds hlen, hres]
    exact ⟨[], [], ⟨1, by simp [DataW.trod, Value.cells, hub]⟩, rfl, rfl⟩
  · rw [List.append_nil, hs ds hlen]
    exact trodAll_stays hlaid _ _ _ _ hread hA (fun x hx => hb.same (hlt x hx)) (fun x hx => by simpa using hlt x hx)
  · rw [hvars, List.append_nil, hs ds hlen]; rfl
  · exact World.keptBut_mono (fun x hx => ⟨hx, .inr (.inl (by simpa using hx))⟩) (hb.frame (· ∈ p ++ []))
theorem door_met (os : Os) (args : Array Value) : laidMetH Tryd.prog laid5 ((World.doorLaid Tryd.prog 67 os).forCall (fun _ _ => 0) ⟨#[], args, []⟩).memory :=
  laidMetH_of_parts3 (fuel := 8) (laidMet_of_run' 8 (by kernel_rfl) (by kernel_rfl)) (by kernel_rfl) (by kernel_rfl)
theorem met_heap {w w' : World} (hh : w.heap = w'.heap) (h : laidMetH Tryd.prog laid5 w) : laidMetH Tryd.prog laid5 w' := h.of_heap hh
end Go.Proofs.YtbefmjodpndndaaDoor
