
/- Stock: how the chapter's lists lie in memory. -/
import Derived.Test.YtfpehakllnkaeaaGreatDoorRepStr
import Derived.Test.YtfpehakllnkaeaaGreatDoorStkP
set_option linter.unusedSimpArgs false
set_option linter.unusedVariables false
namespace Go.Proofs.YtfpehakllnkaeaaGreatDoor
open Go.RowKit Go.IntWalk

def I3 (x : Int × Int × Int) : Prop := I64 x.1 ∧ I64 x.2.1 ∧ I64 x.2.2
section
variable {w : World} {B : Nat} {A : Option Addr} {k : Nat}
theorem SlR.i3 {l : List (Int × Int × Int)} (h : SlR w B A l) (hk : k < l.length) : ∃ b off, A = some ⟨b, off, none⟩ ∧ b < B ∧ w.cell? ⟨b, off + k * 3, none⟩ = some (.int .i64 l[k].1) ∧ w.cell? ⟨b, off + k * 3 + 1, none⟩ = some (.int .i64 l[k].2.1) ∧ w.cell? ⟨b, off + k * 3 + 2, none⟩ = some (.int .i64 l[k].2.2) ∧ I3 l[k] := by
  obtain ⟨b, off, es, hA, hb, hs, hc, e1, e2, rfl, _, _, ⟨rfl, i0⟩, e3, e4, rfl, _, _, ⟨rfl, i1⟩, ⟨rfl, i2⟩⟩ := h k _ (List.getElem?_eq_getElem hk)
  have h4 : Rep.size (Int × Int × Int) = 3 := rfl
  rw [h4] at hc
  exact ⟨b, off, hA, hb, by simpa using hc 0 _ rfl, by simpa using hc 1 _ rfl, by simpa using hc 2 _ rfl, i0, i1, i2⟩
theorem SlR.lt {l : List Lt} (h : SlR w B A l) (hk : k < l.length) : ∃ b off, A = some ⟨b, off, none⟩ ∧ b < B ∧ w.cell? ⟨b, off + k * 3, none⟩ = some (.int .i64 l[k].1) ∧ w.cell? ⟨b, off + k * 3 + 1, none⟩ = some (.int .i64 l[k].2.1) ∧ w.cell? ⟨b, off + k * 3 + 2, none⟩ = some (.bool l[k].2.2) ∧ I64 l[k].1 ∧ I64 l[k].2.1 := by
  obtain ⟨b, off, es, hA, hb, hs, hc, e1, e2, rfl, _, _, ⟨rfl, i0⟩, e3, e4, rfl, _, _, ⟨rfl, i1⟩, rfl⟩ := h k _ (List.getElem?_eq_getElem hk)
  have h4 : Rep.size Lt = 3 := rfl
  rw [h4] at hc
  exact ⟨b, off, hA, hb, by simpa using hc 0 _ rfl, by simpa using hc 1 _ rfl, by simpa using hc 2 _ rfl, i0, i1⟩
theorem SlR.tk {l : List Tk} (h : SlR w B A l) (hk : k < l.length) : ∃ b off, A = some ⟨b, off, none⟩ ∧ b < B ∧ w.cell? ⟨b, off + k * 2, none⟩ = some (.int .i64 l[k].1) ∧ w.cell? ⟨b, off + k * 2 + 1, none⟩ = some (.int .i64 l[k].2) ∧ I64 l[k].1 ∧ I64 l[k].2 := by
  obtain ⟨b, off, es, hA, hb, hs, hc, e1, e2, rfl, _, _, ⟨rfl, i0⟩, rfl, i1⟩ := h k _ (List.getElem?_eq_getElem hk)
  have h4 : Rep.size Tk = 2 := rfl
  rw [h4] at hc
  exact ⟨b, off, hA, hb, by simpa using hc 0 _ rfl, by simpa using hc 1 _ rfl, i0, i1⟩
theorem SlR.kd {l : List Kd} (h : SlR w B A l) (hk : k < l.length) : ∃ b off, A = some ⟨b, off, none⟩ ∧ b < B ∧ w.cell? ⟨b, off + k * 2, none⟩ = some (.string l[k].1) ∧ w.cell? ⟨b, off + k * 2 + 1, none⟩ = some (.int .i64 l[k].2) ∧ l[k].1.size ≤ maxLen ∧ I64 l[k].2 := by
  obtain ⟨b, off, es, hA, hb, hs, hc, e1, e2, rfl, _, _, ⟨rfl, i0⟩, rfl, i1⟩ := h k _ (List.getElem?_eq_getElem hk)
  have h4 : Rep.size Kd = 2 := rfl
  rw [h4] at hc
  exact ⟨b, off, hA, hb, by simpa using hc 0 _ rfl, by simpa using hc 1 _ rfl, i0, i1⟩
end
end Go.Proofs.YtfpehakllnkaeaaGreatDoor
