
/- Stock: the laws' small. -/
import Derived.Test.YtfpehakllnkaeaaGreatDoorStkR
set_option linter.unusedSimpArgs false
set_option linter.unusedVariables false
namespace Go.Proofs.YtfpehakllnkaeaaGreatDoor
open Go.RowKit Go.IntWalk

theorem slr_l3 {w : World} {g : Nat} {t : TypeId} {l : List Lt} (hb : Blk w g t (l3 l).toArray) (hi : ∀ x ∈ l, I64 x.1 ∧ I64 x.2.1) : SlR w w.heap.size (some ⟨g, 0, none⟩) l := fun k x hx => by
  obtain ⟨hk, rfl⟩ := List.getElem?_eq_some_iff.1 hx
  obtain ⟨i0, i1⟩ := hi _ (List.getElem_mem hk)
  obtain ⟨r0, r1, r2⟩ := l3_at l k hk
  refine ⟨g, 0, [.int .i64 l[k].1, .int .i64 l[k].2.1, .bool l[k].2.2], rfl, hb.lt, rfl, fun j u hu => ?_, [.int .i64 l[k].1], [.int .i64 l[k].2.1, .bool l[k].2.2], rfl, rfl, rfl, ⟨rfl, i0⟩, [.int .i64 l[k].2.1], [.bool l[k].2.2], rfl, rfl, rfl, ⟨rfl, i1⟩, rfl⟩
  have h3 : Rep.size Lt = 3 := rfl
  rw [h3, hb.cell]
  match j, hu with
  | 0, hu => simp at hu; subst hu; simpa using r0
  | 1, hu => simp at hu; subst hu; simpa using r1
  | 2, hu => simp at hu; subst hu; simpa using r2
  | j + 3, hu => simp at hu
theorem slr_t2 {w : World} {g : Nat} {t : TypeId} {l : List Tk} (hb : Blk w g t (t2 l).toArray) (hi : ∀ x ∈ l, I2 x) : SlR w w.heap.size (some ⟨g, 0, none⟩) l := fun k x hx => by
  obtain ⟨hk, rfl⟩ := List.getElem?_eq_some_iff.1 hx
  obtain ⟨i0, i1⟩ := hi _ (List.getElem_mem hk)
  obtain ⟨r0, r1⟩ := t2_at l k hk
  refine ⟨g, 0, [.int .i64 l[k].1, .int .i64 l[k].2], rfl, hb.lt, rfl, fun j u hu => ?_, [.int .i64 l[k].1], [.int .i64 l[k].2], rfl, rfl, rfl, ⟨rfl, i0⟩, rfl, i1⟩
  have h3 : Rep.size Tk = 2 := rfl
  rw [h3, hb.cell]
  match j, hu with
  | 0, hu => simp at hu; subst hu; simpa using r0
  | 1, hu => simp at hu; subst hu; simpa using r1
  | j + 2, hu => simp at hu
theorem slr_k1 {w : World} {g : Nat} {t : TypeId} (nm : ByteArray) (n : Int) (hb : Blk w g t #[.string nm, .int .i64 n]) (hs : nm.size ≤ maxLen) (hi : I64 n) : SlR w w.heap.size (some ⟨g, 0, none⟩) [(nm, n)] := fun k x hx => by
  obtain ⟨hk, rfl⟩ := List.getElem?_eq_some_iff.1 hx
  have : k = 0 := by simp at hk; omega
  subst this
  refine ⟨g, 0, [.string nm, .int .i64 n], rfl, hb.lt, rfl, fun j u hu => ?_, [.string nm], [.int .i64 n], rfl, rfl, rfl, ⟨rfl, hs⟩, rfl, hi⟩
  rw [hb.cell]
  match j, hu with
  | 0, hu => simp at hu; subst hu; simp
  | 1, hu => simp at hu; subst hu; simp
  | j + 2, hu => simp at hu
theorem slr_pl {w : World} {g : Nat} {t : TypeId} {p : List (List Tk)} {vs : List Value} (hb : Blk w g t vs.toArray) (h : ∀ k (hk : k < p.length), ∃ A c, vs[k]? = some (.slice A p[k].length c) ∧ p[k].length ≤ c ∧ c ≤ maxLen ∧ SlR w w.heap.size A p[k]) : SlR w w.heap.size (some ⟨g, 0, none⟩) p := fun k x hx => by
  obtain ⟨hk, rfl⟩ := List.getElem?_eq_some_iff.1 hx
  obtain ⟨A', c', hv, a1, a2, a3⟩ := h k hk
  refine ⟨g, 0, [.slice A' p[k].length c'], rfl, hb.lt, rfl, fun j u hu => ?_, ⟨A', c', rfl, a1, a2, a3⟩⟩
  have h4 : Rep.size (List Tk) = 1 := rfl
  rw [h4, hb.cell]
  match j, hu with
  | 0, hu => simp at hu; subst hu; simpa using hv
  | j + 1, hu => simp at hu
def sKs : List Kd := [(⟨#[107]⟩, 3)]
def sLs : List Lt := [(0, 9, false), (0, 5, false)]
def sBs : List Bx := [(0, 4, 10), (1, 2, 10)]
theorem s_plan1 : planL sLs sBs [(0, 3, 5)] = ([[(1, 2), (0, 1)]], 0) := by decide
theorem s_plan2 : planL sLs sBs [(0, 5, 6)] = ([], 22) := by decide
theorem s_plan3 : planL sLs sBs [(0, 2, 5), (0, 4, 9)] = ([[(1, 2)], [(0, 4)]], 0) := by decide
theorem s_right : rightS sKs sLs sBs = true := by kernel_rfl
theorem s_weight : weightF sKs sLs (0, 4, 10) = 22 := by decide
theorem s_left : LeftOK sLs 2 sBs := ⟨rfl, by decide, fun b hb => by
  simp [sBs] at hb; rcases hb with rfl | rfl <;> decide, fun b hb => by
  simp [sBs] at hb; rcases hb with rfl | rfl <;> exact ⟨⟨by decide, by decide⟩, ⟨by decide, by decide⟩, ⟨by decide, by decide⟩⟩⟩
end Go.Proofs.YtfpehakllnkaeaaGreatDoor
