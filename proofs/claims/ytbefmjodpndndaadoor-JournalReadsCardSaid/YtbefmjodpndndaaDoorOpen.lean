
/- Arguments that are structs of any number of fields, opened to words. -/
import Derived.Test.YtbefmjodpndndaaDoorBase
set_option linter.unusedSimpArgs false
set_option linter.unusedVariables false
namespace Go.Proofs.YtbefmjodpndndaaDoor
open Go.RowKit Go.IntWalk

/-- The fields from 'off' on open to T. -/
def OpensFs (P : Program) (off : Nat) (fs : List Field) (T : Type) [Rep T] : Prop :=
  ∀ {H : Type} {enc : TypeId × Value → H} {w : World} {base : Nat} {spare : Nat → Bool} {held : Bool} {n : Nat} {cs : List Value},
    (∀ (i : Nat) (f : Field), fs[i]? = some f → ∃ y, DataW.trod enc P w base spare held n f.type ((cs.drop f.offset).take (P.cellsOf f.type)) = some y) →
    off + Rep.size T ≤ cs.length → ∃ d : T, Rep.rep w w.heap.size ((cs.drop off).take (Rep.size T)) d
theorem opensFs_one {P : Program} {off : Nat} {f : Field} {T : Type} [Rep T] (h : Opens P f.type T) (ho : f.offset = off) : OpensFs P off [f] T := by
  intro H enc w base spare held n cs hf _
  obtain ⟨y, hy⟩ := hf 0 f rfl
  rw [ho, h.1] at hy
  exact h.2 hy
theorem opensFs_cons {P : Program} {off : Nat} {f : Field} {fs : List Field} {T S : Type} [Rep T] [Rep S] (h : Opens P f.type T) (ho : f.offset = off) (hs : OpensFs P (off + Rep.size T) fs S) : OpensFs P off (f :: fs) (T × S) := by
  intro H enc w base spare held n cs hf hl
  obtain ⟨y, hy⟩ := hf 0 f rfl
  rw [ho, h.1] at hy
  obtain ⟨d, hd⟩ := h.2 hy
  have hl' : off + (Rep.size T + Rep.size S) ≤ cs.length := hl
  obtain ⟨d2, hd2⟩ := hs (fun i g hg => hf (i + 1) g (by simpa using hg)) (by omega)
  refine ⟨(d, d2), (cs.drop off).take (Rep.size T), (cs.drop (off + Rep.size T)).take (Rep.size S), ?_, ?_, ?_, hd, hd2⟩
  · show (cs.drop off).take (Rep.size T + Rep.size S) = _
    rw [List.take_add, List.drop_drop]
  · simp; omega
  · simp; omega
theorem opens_struct {P : Program} {t : TypeId} {fs : List Field} {T : Type} [Rep T] (ht : P.underlying t = some (.struct fs.toArray)) (hc : P.cellsOf t = Rep.size T) (hf : OpensFs P 0 fs T) : Opens P t T := by
  refine ⟨hc, fun {H enc w base spare held fuel cs x} h => ?_⟩
  obtain ⟨xs, n, _, _, hl, hlen, hx⟩ := DataW.trod_struct ht h
  obtain ⟨d, hd⟩ := hf (cs := cs) (fun i f hi => by
    have := hx i f (by simpa using hi)
    have hi' : i < xs.length := by
      rw [hlen]
      have := (List.getElem?_eq_some_iff.1 hi).1
      simpa using this
    rw [List.getElem?_eq_getElem hi'] at this
    exact ⟨_, this⟩) (by omega)
  refine ⟨d, ?_⟩
  rw [List.drop_zero, List.take_of_length_le (by omega)] at hd
  exact hd
end Go.Proofs.YtbefmjodpndndaaDoor
