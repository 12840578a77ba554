
/- A queue of numbers of the call's own: a slice at any place of its block: its head is struck off, lists are appended. -/
import Derived.Test.YtdjjhflhdhihcaaTabG
import Derived.Deep.AppendSrc
import Derived.Lib.LazyBuf
set_option linter.unusedSimpArgs false
set_option linter.unusedVariables false
namespace Go.Proofs.Ytdjjhflhdhihcaa
open Go.RowKit Go.IntWalk

theorem gr_setCells (g : Nat) : ∀ (vs : List Value) (o : Nat) (w : World), w.grownBy (w.setCells g o vs) (some g)
  | [], _, w => World.grownBy.refl _ _
  | v :: r, o, w => gr_tr (gr_set w g o v) (gr_setCells g r (o + 1) _)
theorem blk_setCells : ∀ (vs : List Value) (o : Nat) {w : World} {g : Nat} {t : TypeId} {cs : Array Value}, Blk w g t cs → ∃ cs', Blk (w.setCells g o vs) g t cs' ∧ cs'.size = cs.size
  | [], _, _, _, _, cs, h => ⟨cs, h, rfl⟩
  | v :: r, o, _, _, _, cs, h => by
    obtain ⟨cs', h1, h2⟩ := blk_setCells r (o + 1) (h.set_ o v)
    exact ⟨cs', h1, by rw [h2]; simp⟩
/-- v is a slice of the call's own, anywhere in its block g, that holds the list. -/
def QR (w : World) (base g : Nat) (v : Value) (l : List Int) : Prop :=
  ∃ o c cur, v = .slice (some ⟨g, o, none⟩) l.length c ∧ base ≤ g ∧ Blk w g 3 cur ∧ l.length ≤ c ∧ c ≤ maxLen ∧ o + c ≤ cur.size ∧ ∀ j (h : j < l.length), w.cell? ⟨g, o + j, none⟩ = some (.int .i64 l[j])
section
variable {w w' : World} {base g : Nat} {v : Value} {l : List Int}
theorem QR.kept (h : QR w base g v l) (hb : ∀ cur, Blk w g 3 cur → Blk w' g 3 cur) : QR w' base g v l := by
  obtain ⟨o, c, cur, rfl, h1, h2, h3, h4, h5, h6⟩ := h
  exact ⟨o, c, cur, rfl, h1, hb _ h2, h3, h4, h5, fun j hj => by rw [(hb _ h2).cell, ← h2.cell]; exact h6 j hj⟩
theorem QR.below (h : QR w base g v l) (hb : Below w.heap.size w w') : QR w' base g v l := h.kept (fun _ h2 => h2.below hb h2.lt)
theorem QR.grown {row : Option Nat} (h : QR w base g v l) (hg : w.grownBy w' row) (hne : some g ≠ row) : QR w' base g v l := h.kept (fun _ h2 => h2.grown hg hne)
theorem QR.blk (h : QR w base g v l) : base ≤ g ∧ ∃ cur, Blk w g 3 cur := by
  obtain ⟨o, c, cur, rfl, h1, h2, -⟩ := h
  exact ⟨h1, cur, h2⟩
theorem QR.one (w : World) (q : Int) : QR (w.alloc (Obj.cells #[.int .i64 q] 3)) w.heap.size w.heap.size (.slice (some ⟨w.heap.size, 0, none⟩) 1 1) [q] :=
  ⟨0, 1, #[.int .i64 q], rfl, Nat.le_refl _, Blk.new w _ _, Nat.le_refl _, by unfold maxLen; omega, by simp, fun j hj => by
    have : j = 0 := by simpa using hj
    subst this
    simp⟩
theorem QR.base_ {b2 : Nat} (h : QR w base g v l) (hb : b2 ≤ base) : QR w b2 g v l := by
  obtain ⟨o, c, cur, rfl, h1, h⟩ := h
  exact ⟨o, c, cur, rfl, Nat.le_trans hb h1, h⟩
/-- The head is struck off: where room is left behind it, and where none is. -/
theorem QR.tail {x : Int} (h : QR w base g v (x :: l)) : ∃ o c, v = .slice (some ⟨g, o, none⟩) (l.length + 1) c ∧ l.length + 1 ≤ c ∧ c ≤ maxLen ∧ g < w.heap.size ∧ w.cell? ⟨g, o, none⟩ = some (.int .i64 x) ∧
    (1 < c → QR w base g (.slice (some ⟨g, o + 1, none⟩) l.length (c - 1)) l) ∧ (c = 1 → l = [] ∧ QR w base g (.slice (some ⟨g, o, none⟩) 0 0) []) := by
  obtain ⟨o, c, cur, rfl, h1, h2, h3, h4, h5, h6⟩ := h
  refine ⟨o, c, rfl, h3, h4, h2.lt, by have := h6 0 (by simp); simpa using this, fun hc => ?_, fun hc => ?_⟩
  · refine ⟨o + 1, c - 1, cur, rfl, h1, h2, by simp at h3; omega, by omega, by omega, fun j hj => ?_⟩
    have := h6 (j + 1) (by simp; omega)
    rw [show o + 1 + j = o + (j + 1) by omega, this]
    simp
  · have hl : l = [] := List.eq_nil_of_length_eq_zero (by simp at h3; omega)
    exact ⟨hl, ⟨o, 0, cur, rfl, h1, h2, by simp, by omega, by omega, fun j hj => by simp at hj⟩⟩
/-- append of a list that can be read. -/
theorem QR.run_app {B c : Nat} {A : Option Addr} (h : QR w base g v l) {ys : List Int} (hs : SlR w B A ys) (hys : 0 < ys.length) (ty : TypeId) (hlen : l.length + ys.length ≤ 10000000) (hbase : base ≤ w.heap.size) :
    ∃ g' v' w', (Builtin.append_ #[34, 34] ty #[v, .slice A ys.length c]).run Try.prog w = .ok v' w' ∧ QR w' base g' v' (l ++ ys) ∧ w.grownBy w' (some g) := by
  obtain ⟨i0, hi, hz0, hz1, hz2⟩ := info_parts infoInt
  obtain ⟨b, off, rfl, hb, hcell⟩ := hs.int_cells hys
  obtain ⟨o, cc, cur, rfl, h1, h2, h3, h4, h5, h6⟩ := h
  have hsrc : Src Try.prog i0.size 34 (.slice (some ⟨b, off, none⟩) ys.length c) ys.length (ys.map (Value.int .i64)) w :=
    Src.ofSlice w Try.underlying34 ⟨b, off, none⟩ ys.length c _ (by rw [hz1]; simp) hcell (fun u hu => by obtain ⟨y, _, rfl⟩ := List.mem_map.1 hu; rfl)
  by_cases hr : l.length + ys.length ≤ cc
  · have hrun := run_append_room_src (P := Try.prog) w 34 34 ty 3 i0 Try.underlying34 hi g o l.length cc _ ys.length _ hsrc hr
      (fun j hj => by
        rw [hz1, Nat.mul_one, h2.cell]
        have : o + l.length + j < cur.size := by simp at hj; omega
        rw [Array.getElem?_eq_getElem this]; rfl) (fun j _ => h2.frozen _)
    rw [hz1, Nat.mul_one] at hrun
    obtain ⟨cur', hb', hsz'⟩ := blk_setCells (ys.map (Value.int .i64)) (o + l.length) h2
    refine ⟨g, _, _, hrun, ⟨o, cc, cur', by rw [List.length_append], h1, hb', by rw [List.length_append]; exact hr, h4, by rw [hsz']; exact h5, fun j hj => ?_⟩, gr_setCells _ _ _ _⟩
    rw [List.length_append] at hj
    by_cases hjl : j < l.length
    · rw [World.cell?_setCells_out g _ _ _ _ (fun _ _ => Or.inl (by simp; omega)), h6 j hjl, List.getElem_append_left hjl]
    · have := World.cell?_setCells_in g (ys.map (Value.int .i64)) (o + l.length) w (fun i hi => by
        rw [h2.cell]
        have : o + l.length + i < cur.size := by simp at hi; omega
        rw [Array.getElem?_eq_getElem this]; rfl) (j - l.length) (by simp; omega)
      rw [show o + l.length + (j - l.length) = o + j by omega] at this
      rw [this, List.getElem_map, List.getElem_append_right (by omega)]
  · have hold : (Builtin.firstCells i0.size l.length (.slice (some ⟨g, o, none⟩) l.length cc)).run Try.prog w.drew = .ok (l.map (Value.int .i64)).toArray w.drew := by
      refine run_firstCells_some w.drew i0.size l.length ⟨g, o, none⟩ l.length cc _ (by rw [hz1]; simp) (fun j u hu => ?_)
      rw [List.getElem?_map] at hu
      cases hj : l[j]? with
      | none => rw [hj] at hu; cases hu
      | some x =>
        rw [hj] at hu
        simp only [Option.map_some, Option.some.injEq] at hu
        subst hu
        obtain ⟨hjl, rfl⟩ := List.getElem?_eq_some_iff.1 hj
        have := h6 j hjl
        show w.cell? _ = _
        unfold Addr.add
        by_cases h0 : j = 0
        · subst h0; simpa using this
        · simp only [h0, if_false]; exact this
    have hrun := run_append_grow_src (P := Try.prog) w 34 34 ty 3 i0 _ Try.underlying34 hi hz0 (some ⟨g, o, none⟩) l.length cc _ hold _ ys.length _ hsrc (by omega) (by omega) (growslice_fits (by omega) (by rw [hz2]; omega))
    have hge := grownCap_ge w (l.length + ys.length) cc 3
    have hcm := grownCap_le_maxLen w (l.length + ys.length) cc 3 (by unfold maxLen; omega)
    refine ⟨w.heap.size, _, _, hrun, ⟨0, _, _, by rw [List.length_append], hbase, Blk.new w.drew _ _, by rw [List.length_append]; exact hge, hcm, ?_, fun j hj => ?_⟩, gr_below (((Below.refl w.heap.size w).drew).alloc (Nat.le_refl _) _) _⟩
    · rw [Nat.zero_add, Array.size_append, List.size_toArray, List.length_append, List.length_map, List.length_map]
      have : (Builtin.zeroCells (Value.int IntKind.i64 0).cells (grownCap w (l.length + ys.length) cc 3 - (l.length + ys.length))).size = grownCap w (l.length + ys.length) cc 3 - (l.length + ys.length) := by simp [Builtin.zeroCells, Value.cells]
      rw [this]; omega
    · have e1 : (w.drew.alloc (.cells ((l.map (Value.int .i64) ++ ys.map (Value.int .i64)).toArray ++ Builtin.zeroCells (Value.int IntKind.i64 0).cells (grownCap w (l.length + ys.length) cc 3 - (l.length + ys.length))) 3)).cell? ⟨w.heap.size, 0 + j, none⟩ = _ := World.cell?_alloc_new w.drew _ _ (0 + j)
      rw [Nat.zero_add] at e1
      rw [Nat.zero_add, e1, Array.getElem?_append_left (by simpa using hj), List.getElem?_toArray, ← List.map_append, List.getElem?_map, List.getElem?_eq_getElem hj]
      rfl
end
section
variable {ops : Array Oper} {rest : List Oper} {o : Oper} {a : Act} {Q : Exit → Act → World → Prop}
theorem wp_appQ (w : World) (hgd : o.guard = none) (s x : Operand) (ho : o.op = .call { callee := .builtin .append, args := #[s, x], argTypes := #[34, 34] })
    (base g : Nat) (v : Value) (l : List Int) (hs : a.eval s = v) (hown : QR w base g v l) (B c : Nat) (A : Option Addr) (ys : List Int) (hx : a.eval x = .slice A ys.length c) (hr : SlR w B A ys) (hys : 0 < ys.length) (hlen : l.length + ys.length ≤ 10000000) (hbase : base ≤ w.heap.size)
    (h : ∀ g' A' c' w', QR w' base g' (.slice A' (l ++ ys).length c') (l ++ ys) → w.grownBy w' (some g) → wpList Try.prog ops Q rest (a.put o.dst (.slice A' (l ++ ys).length c')) w') : wpList Try.prog ops Q (o :: rest) a w := by
  obtain ⟨g', v', w', hrun, h2, h3⟩ := hown.run_app (c := c) hr hys o.type hlen hbase
  have h2' := h2
  obtain ⟨o', cc, cur, rfl, -⟩ := h2
  refine wpList_plain hgd fun K hK => ?_
  unfold Oper.wp execOp
  simp only [ho, resolve, invoke, builtin, Sem.run_bind, Sem.run_pure, Result.andThen_ok, List.map_toArray, List.map_cons, List.map_nil, hs, hx, hrun]
  exact hK _ _ (h _ _ _ _ h2' h3)
end
end Go.Proofs.Ytdjjhflhdhihcaa
