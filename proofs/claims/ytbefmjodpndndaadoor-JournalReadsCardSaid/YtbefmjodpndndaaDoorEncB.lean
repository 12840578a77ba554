
/- Wire: a Builder in memory, written to piece by piece. -/
import Derived.Test.YtbefmjodpndndaaDoorEncA
import Derived.Test.YtbefmjodpndndaaDoorWireC
import Derived.Test.YtbefmjodpndndaaDoorRegS
set_option linter.unusedSimpArgs false
set_option linter.unusedVariables false
namespace Go.Proofs.YtbefmjodpndndaaDoor
open Go.RowKit Go.IntWalk

/-- The Builder's block, and what stands in it. -/
structure BW (w : World) (acc : List UInt8) (wx : World) : Prop where
  below : Below w.heap.size w wx
  isb : Lib.IsBuilder 98 5 w.heap.size w.heap.size (Lib.byteCells acc) wx
theorem BW.fresh (w : World) : BW w [] (w.alloc (Obj.cells #[.pointer none, .slice none 0 0] 98)) := ⟨by (repeat (first | exact Below.refl _ _ | assumption | refine below_drewN ?_ _ | refine Below.drew ?_ | refine Below.alloc ?_ (by (try simp); (try omega)) _ | refine Below.setCell ?_ (by (try simp); (try omega)) _)), Lib.fresh_isBuilder 98 5 w⟩
theorem BW.step {w wx wy : World} {acc : List UInt8} (h : BW w acc wx) (hb : Below wx.heap.size wx wy) : BW w acc wy := ⟨h.below.trans (hb.mono h.below.size), isB_below h.isb hb⟩
theorem BW.drew {w wx : World} {acc : List UInt8} (h : BW w acc wx) : BW w acc wx.drew := h.step (by (repeat (first | exact Below.refl _ _ | assumption | refine below_drewN ?_ _ | refine Below.drew ?_ | refine Below.alloc ?_ (by (try simp); (try omega)) _ | refine Below.setCell ?_ (by (try simp); (try omega)) _)))
theorem BW.alloc {w wx : World} {acc : List UInt8} (h : BW w acc wx) (o : Obj) : BW w acc (wx.alloc o) := h.step (by (repeat (first | exact Below.refl _ _ | assumption | refine below_drewN ?_ _ | refine Below.drew ?_ | refine Below.alloc ?_ (by (try simp); (try omega)) _ | refine Below.setCell ?_ (by (try simp); (try omega)) _)))
theorem BW.write {w : World} {acc : List UInt8} (s : List UInt8) (hl : acc.length + s.length ≤ 100000000000) (W : World) (h : BW w acc W) : Calls Tryd.prog 52 #[.pointer (some ⟨w.heap.size, 0, none⟩), .string (bs s)] W fun e w' => e = .returned (.tuple #[.int .i64 (bs s).size, .nilIface]) ∧ BW w (acc ++ s) w' := by
  refine (Tryd.Builder_WriteString w.heap.size w.heap.size _ (bs s) W h.isb (by rw [Lib.byteCells_length, bs_size]; omega) h.below.size).mono ?_
  rintro e w' ⟨h1, h2, h3⟩
  refine ⟨h1, h.below.trans h3, ?_⟩
  have : Lib.byteCells (acc ++ s) = Lib.byteCells acc ++ Lib.strCells (bs s) := by simp [Lib.byteCells, Lib.strCells, bs]
  rw [this]
  exact .inr h2
theorem BW.str {w : World} {acc : List UInt8} (W : World) (h : BW w acc W) : Calls Tryd.prog 54 #[.pointer (some ⟨w.heap.size, 0, none⟩)] W fun e w' => e = .returned (.string (bs acc)) ∧ Below w.heap.size w w' := by
  refine (Tryd.Builder_String_any w.heap.size w.heap.size acc W h.isb h.below.size).mono ?_
  rintro e w' ⟨h1, h2⟩
  exact ⟨h1, h.below.trans h2⟩
theorem flat_snoc3 {α : Type} (enc : α → List UInt8) (l : List α) (k : Nat) (h : k < l.length) : ((l.take (k + 1)).map enc).flatten = ((l.take k).map enc).flatten ++ enc l[k] := by
  rw [List.take_add_one, List.getElem?_eq_getElem h, List.map_append, List.flatten_append]; simp
theorem flat_take {α : Type} (enc : α → List UInt8) (l : List α) (k : Nat) : (((l.take k).map enc).flatten).length ≤ ((l.map enc).flatten).length := by
  conv => rhs; rw [← List.take_append_drop k l]
  rw [List.map_append, List.flatten_append, List.length_append]
  omega
theorem sz22 (n : Int) (h : I64 n) : (bs (encI n)).size ≤ 22 := by rw [bs_size]; exact encI_le22 n h
theorem sz44 (m n : Int) (h : I64 m) (h2 : I64 n) : (bs (encI m) ++ bs (encI n)).size ≤ 44 := by
  rw [bs_app, bs_size, List.length_append]; have := encI_le22 m h; have := encI_le22 n h2; omega
theorem add3 (x y z : Int) (h1 : I64 x) (h2 : I64 y) (h3 : I64 z) : (¬ 9223372036854775807 < (bs (encI x)).size + (bs (encI y)).size) ∧ (¬ 9223372036854775807 < (bs (encI x)).size + (bs (encI y)).size + (bs (encI z)).size) ∧ (¬ 9223372036854775807 < (bs (encI x) ++ bs (encI y)).size + (bs (encI z)).size) := by
  have := sz22 x h1; have := sz22 y h2; have := sz22 z h3; have := sz44 x y h1 h2
  refine ⟨by omega, by omega, by omega⟩
theorem cat3 (x y z : Int) : bs (encI x) ++ bs (encI y) ++ bs (encI z) = bs (enc3 (x, y, z)) := by rw [bs_app, bs_app]; rfl
end Go.Proofs.YtbefmjodpndndaaDoor
