
/- Net: packets in memory; slices.Delete of one packet. -/
import Derived.Test.YtfofmbmmighdiaaDoorSeamF
import Derived.Lib.SliceRun
set_option linter.unusedSimpArgs false
set_option linter.unusedVariables false
namespace Go.Proofs.YtfofmbmmighdiaaDoor
open Go.RowKit Go.IntWalk

/-- A packet: from, to, body. -/
abbrev Pk := Int × Int × ByteArray
def pc : List Pk → List Value
  | [] => []
  | p :: l => .int .i64 p.1 :: .int .i64 p.2.1 :: .string p.2.2 :: pc l
theorem pc_len (l : List Pk) : (pc l).length = l.length * 3 := by
  induction l with
  | nil => rfl
  | cons p l ih => simp [pc, ih]; omega
theorem pc_app (a b : List Pk) : pc (a ++ b) = pc a ++ pc b := by
  induction a with
  | nil => rfl
  | cons p l ih => simp [pc, ih]
theorem pc_at : ∀ (l : List Pk) (i : Nat) (h : i < l.length), (pc l)[i * 3]? = some (.int .i64 l[i].1) ∧ (pc l)[i * 3 + 1]? = some (.int .i64 l[i].2.1) ∧ (pc l)[i * 3 + 2]? = some (.string l[i].2.2)
  | p :: l, 0, _ => by simp [pc]
  | p :: l, i + 1, h => by
    have := pc_at l i (by simpa using h)
    rw [show (i + 1) * 3 = i * 3 + 3 by omega]
    simpa [pc] using this
theorem pc_split (l : List Pk) (i : Nat) (h : i ≤ l.length) : pc l = pc (l.take i) ++ pc (l.drop i) := by rw [← pc_app, List.take_append_drop]
theorem pc_take (l : List Pk) (i : Nat) (h : i ≤ l.length) : (pc l).take (i * 3) = pc (l.take i) := by
  rw [pc_split l i h]
  have : (pc (l.take i)).length = i * 3 := by rw [pc_len, List.length_take, Nat.min_eq_left h]
  rw [List.take_left' this]
theorem pc_drop (l : List Pk) (i : Nat) (h : i ≤ l.length) : (pc l).drop (i * 3) = pc (l.drop i) := by
  conv => lhs; rw [pc_split l i h]
  have : (pc (l.take i)).length = i * 3 := by rw [pc_len, List.length_take, Nat.min_eq_left h]
  rw [List.drop_left' this]
theorem pc_erase (l : List Pk) (i : Nat) (h : i < l.length) : pc (l.eraseIdx i) = (pc l).take (i * 3) ++ (pc l).drop ((i + 1) * 3) := by
  rw [pc_take l i (by omega), pc_drop l (i + 1) h, List.eraseIdx_eq_take_drop_succ, pc_app]

/-- A run of cells laid into a list. -/
def putL : List Value → Nat → List Value → List Value
  | c, _, [] => c
  | c, o, v :: r => putL (c.set o v) (o + 1) r
theorem putL_len : ∀ (vs c : List Value) (o : Nat), (putL c o vs).length = c.length
  | [], _, _ => rfl
  | v :: r, c, o => by rw [putL, putL_len r]; simp
theorem take_set1 (c : List Value) (o : Nat) (v : Value) (h : o < c.length) : (c.set o v).take (o + 1) = c.take o ++ [v] := by
  rw [List.take_add_one, List.getElem?_set_self h]
  congr 1
  apply List.ext_getElem?
  intro j
  by_cases hj : j < o
  · rw [List.getElem?_take_of_lt hj, List.getElem?_take_of_lt hj, List.getElem?_set_ne (by omega)]
  · rw [List.getElem?_eq_none (by simp; omega), List.getElem?_eq_none (by simp; omega)]
theorem drop_set1 (c : List Value) (o m : Nat) (v : Value) (h : o < m) : (c.set o v).drop m = c.drop m := by
  apply List.ext_getElem?
  intro j
  rw [List.getElem?_drop, List.getElem?_drop, List.getElem?_set_ne (by omega)]
theorem putL_eq : ∀ (vs c : List Value) (o : Nat), o + vs.length ≤ c.length → putL c o vs = c.take o ++ vs ++ c.drop (o + vs.length)
  | [], c, o, _ => by simp [putL]
  | v :: r, c, o, h => by
    simp only [List.length_cons] at h
    rw [putL, putL_eq r _ _ (by simp; omega), take_set1 c o v (by omega), drop_set1 c o _ v (by omega)]
    simp only [List.length_cons, List.append_assoc, List.cons_append, List.nil_append, show o + 1 + r.length = o + (r.length + 1) by omega]
theorem setCells_blk {g : Nat} {t : TypeId} : ∀ (vs : List Value) (o : Nat) (w : World) (cs : Array Value), Blk w g t cs → Blk (w.setCells g o vs) g t ⟨putL cs.toList o vs⟩
  | [], _, _, _, h => h
  | v :: r, o, w, cs, h => by
    have := setCells_blk r (o + 1) _ _ (h.set_ o v)
    rw [World.setCells, putL]
    simpa using this
theorem setCells_grown (g : Nat) : ∀ (vs : List Value) (o : Nat) (w : World), w.grownBy (w.setCells g o vs) (some g)
  | [], _, w => grown_r w _
  | v :: r, o, w => grown_tr (grown_s w g o v) (setCells_grown g r (o + 1) _)
theorem infoPk : (Tryd.prog.info? 76).map (fun i => (i.zero, i.size, i.bytes)) = some (some (.agg #[.int .i64 0, .int .i64 0, .string ⟨#[]⟩]), 3, 32) := by kernel_rfl
theorem run_clear3 (w : World) (ty : TypeId) (b o c : Nat) (hc : ∀ j, j < 3 → (w.cell? ⟨b, o + j, none⟩).isSome = true) (hf : ∀ j, j < 3 → w.frozen? ⟨b, o + j, none⟩ = false) :
    (Builtin.clear_ #[73] ty #[.slice (some ⟨b, o, none⟩) 1 c]).run Tryd.prog w = .ok (.tuple #[]) (w.setCells b o [.int .i64 0, .int .i64 0, .string ⟨#[]⟩]) := by
  have hst := run_storeCells_cells (P := Tryd.prog) b o [.int .i64 0, .int .i64 0, .string ⟨#[]⟩] 0 w (by simpa using hc) (by simpa using hf) (by intro v hv; simp at hv; rcases hv with rfl | rfl | rfl <;> rfl)
  simp only [Nat.add_zero] at hst
  have hv := Tryd.zeroValue76
  have hzc : (Builtin.zeroCells #[.int .i64 0, .int .i64 0, .string ⟨#[]⟩] 1).toList = [.int .i64 0, .int .i64 0, .string ⟨#[]⟩] := by simp [Builtin.zeroCells, List.range, List.range.loop]
  simp [Builtin.clear_, run_underlying Tryd.underlying73, hv, Value.cells, hzc, hst]
end Go.Proofs.YtfofmbmmighdiaaDoor
