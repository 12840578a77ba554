
/- Game: rows of ints of the call's own, side by side; the solver in memory. -/
import Derived.Test.YtfpehakllnkaeaaDoorGamP
import Derived.Test.YtfpehakllnkaeaaDoorMem
set_option linter.unusedSimpArgs false
set_option linter.unusedVariables false
namespace Go.Proofs.YtfpehakllnkaeaaDoor
open Go.RowKit Go.IntWalk

theorem gr_set (w : World) (b i : Nat) (u : Value) : w.grownBy (w.setCell ⟨b, i, none⟩ u) (some b) :=
  ⟨rfl, rfl, rfl, by simp, fun k _ hk => Below.heap_setCell w _ u k (fun e => hk (by rw [e]))⟩
theorem gr_tr {w w1 w2 : World} {r : Option Nat} (h : w.grownBy w1 r) (h2 : w1.grownBy w2 r) : w.grownBy w2 r :=
  ⟨h2.os.trans h.os, h2.tape.trans h.tape, h2.output.trans h.output, Nat.le_trans h.size h2.size, fun k hk hr => (h2.block k (Nat.lt_of_lt_of_le hk h.size) hr).trans (h.block k hk hr)⟩
theorem OwnI.form {w : World} {base : Nat} {v : Value} {l : List Int} (h : OwnI w base v l) : ∃ A c, v = .slice A l.length c ∧ (l ≠ [] → ∃ g, A = some ⟨g, 0, none⟩ ∧ base ≤ g ∧ g < w.heap.size ∧ (∀ k (hk : k < l.length), w.cell? ⟨g, k, none⟩ = some (.int .i64 l[k])) ∧ ∀ k, w.frozen? ⟨g, k, none⟩ = false) := by
  rcases h.2 with ⟨hv, hn⟩ | ⟨g, cap, cur, hv, hg, hb, hc, hm, hs, ht⟩
  · have : l = [] := List.eq_nil_of_length_eq_zero hn
    subst this
    exact ⟨none, 0, hv, fun h => absurd rfl h⟩
  · have hb : Blk w g 3 cur := hb
    refine ⟨_, cap, hv, fun _ => ⟨g, rfl, hg, hb.lt, fun k hk => ?_, fun k => hb.frozen k⟩⟩
    rw [hb.cell]
    have e : cur[k]? = cur.toList[k]? := by simp
    have e2 : (cur.toList.take (l.length * 1))[k]? = cur.toList[k]? := List.getElem?_take_of_lt (by omega)
    rw [e, ← e2, ht, List.getElem?_map, List.getElem?_eq_getElem hk]
    rfl
theorem OwnI.at_ {w : World} {base g c n : Nat} {l : List Int} (h : OwnI w base (.slice (some ⟨g, 0, none⟩) n c) l) {k : Nat} (hk : k < l.length) : w.cell? ⟨g, k, none⟩ = some (.int .i64 l[k]) := by
  obtain ⟨A, c', hv, hA⟩ := h.form
  obtain ⟨g', rfl, _, _, hc, _⟩ := hA (by intro e; subst e; simp at hk)
  simp only [Value.slice.injEq, Option.some.injEq, Addr.mk.injEq] at hv
  obtain ⟨⟨rfl, _⟩, _, _⟩ := hv
  exact hc k hk
theorem OwnI.set_ {w : World} {base g c n : Nat} {l : List Int} (h : OwnI w base (.slice (some ⟨g, 0, none⟩) n c) l) {k : Nat} (hk : k < l.length) (y : Int) : OwnI (w.setCell ⟨g, k, none⟩ (.int .i64 y)) base (.slice (some ⟨g, 0, none⟩) n c) (l.set k y) := by
  rcases h.2 with ⟨hv, _⟩ | ⟨g', cap, cur, hv, hg, hb, hc, hm, hs, ht⟩
  · simp at hv
  · simp only [Value.slice.injEq, Option.some.injEq, Addr.mk.injEq, and_true] at hv
    obtain ⟨rfl, rfl, rfl⟩ := hv
    have hb : Blk w g 3 cur := hb
    have hb' := hb.set_ k (.int .i64 y)
    refine ⟨by simp, .inr ⟨g, c, _, by simp, hg, hb', by simpa using hc, hm, by simpa using hs, ?_⟩⟩
    rw [Array.toList_setIfInBounds]
    simp only [List.length_set]
    rw [List.map_set, ← ht, List.take_set]
theorem OwnI.lt {w : World} {base : Nat} {v : Value} {l : List Int} (h : OwnI w base v l) : ∀ k, v.ownBlock = some k → base ≤ k ∧ k < w.heap.size := World.ownsRow.lt h
theorem OwnI.kept {w w' : World} {base : Nat} {v : Value} {l : List Int} {row : Option Nat} (h : OwnI w base v l) (hg : w.grownBy w' row) (hne : ∀ g, v.ownBlock = some g → row ≠ some g) : OwnI w' base v l := by
  refine World.ownsRow.kept h hg ?_
  cases ho : v.ownBlock with
  | none => exact .inl rfl
  | some g => exact .inr (fun e => hne g ho e.symm)

theorem OwnI.fz {w : World} {base g c n : Nat} {l : List Int} (h : OwnI w base (.slice (some ⟨g, 0, none⟩) n c) l) (k : Nat) : w.frozen? ⟨g, k, none⟩ = false := by
  rcases h.2 with ⟨hv, _⟩ | ⟨g', cap, cur, hv, hg, hb, _⟩
  · simp at hv
  · simp only [Value.slice.injEq, Option.some.injEq, Addr.mk.injEq, and_true] at hv
    obtain ⟨rfl, rfl, rfl⟩ := hv
    have hb : Blk w g 3 cur := hb
    exact hb.frozen k
/-- Rows of ints, side by side. -/
structure Fam (w : World) (base : Nat) (V : List Value) (X : List (List Int)) : Prop where
  len : V.length = X.length
  own : ∀ i (hv : i < V.length) (hx : i < X.length), OwnI w base V[i] X[i]
  sep : ∀ i j (hi : i < V.length) (hj : j < V.length), i ≠ j → ∀ g, V[i].ownBlock = some g → V[j].ownBlock ≠ some g
section
variable {w w' : World} {base : Nat} {V : List Value} {X : List (List Int)}
theorem Fam.grown (h : Fam w base V X) {row : Option Nat} (hg : w.grownBy w' row) (hne : ∀ i (hi : i < V.length) g, V[i].ownBlock = some g → row ≠ some g) : Fam w' base V X :=
  ⟨h.len, fun i hv hx => (h.own i hv hx).kept hg (hne i hv), h.sep⟩
theorem Fam.below (h : Fam w base V X) (hb : Below w.heap.size w w') : Fam w' base V X := ⟨h.len, fun i hv hx => (h.own i hv hx).below hb, h.sep⟩
/-- A store into a block of another type. -/
theorem Fam.other (h : Fam w base V X) {b : Nat} {t : TypeId} {cs : Array Value} (hb : Blk w b t cs) (ht : t ≠ 3) (hg : w.grownBy w' (some b)) : Fam w' base V X :=
  h.grown hg (fun i hi g hv e => by
    injection e with e
    subst e
    exact own_blk_ne (h.own i hi (by rw [← h.len]; exact hi)) hb (fun e => ht e.symm) hv)
/-- The i-th row has become another one. -/
theorem Fam.turn (h : Fam w base V X) {i : Nat} (hi : i < V.length) {v : Value} {x : List Int} (hg : w.grownBy w' V[i].ownBlock) (ho : OwnI w' base v x) (hat : v.ownBlock = V[i].ownBlock ∨ v.ownBlock = some w.heap.size) : Fam w' base (V.set i v) (X.set i x) := by
  have hlt : ∀ j (hj : j < V.length) g, V[j].ownBlock = some g → g < w.heap.size := fun j hj g hv => ((h.own j hj (by rw [← h.len]; exact hj)).lt g hv).2
  refine ⟨by simp [h.len], fun j hv hx => ?_, fun j k hj hk hjk g => ?_⟩
  · simp only [List.length_set] at hv hx
    rw [List.getElem_set, List.getElem_set]
    split
    · exact ho
    · rename_i e
      exact (h.own j hv hx).kept hg (fun g h1 h2 => h.sep j i hv hi (fun e' => e e'.symm) g h1 h2)
  · simp only [List.length_set] at hj hk
    rw [List.getElem_set, List.getElem_set]
    split
    · rename_i e
      subst e
      rw [if_neg hjk]
      intro h1 h2
      rcases hat with ha | ha
      · exact h.sep i k hi hk hjk g (ha ▸ h1) h2
      · rw [ha] at h1
        injection h1 with h1
        have := hlt k hk g h2
        omega
    · rename_i e
      split
      · rename_i e2
        subst e2
        intro h1 h2
        rcases hat with ha | ha
        · exact h.sep i j hi hj (fun e' => e e') g (ha ▸ h2) h1
        · rw [ha] at h2
          injection h2 with h2
          have := hlt j hj g h1
          omega
      · exact h.sep j k hj hk hjk g
end
section
variable {w w1 w' : World} {base b gi : Nat} {vg vm vR vO vL vQ v : Value} {vI : List Value} {R O L Q x : List Int} {I : List (List Int)}
theorem sol_set {b j : Nat} {u : Value} {t : TypeId} {cs : Array Value} {V : List Value} {X : List (List Int)} {gi : Nat} {vI : List Value} (hF : Fam w base V X) (sb : Blk w b t cs) (ib : Blk w gi 91 vI.toArray) (ht : t ≠ 3) (hne : b ≠ gi) :
    Fam (w.setCell ⟨b, j, none⟩ u) base V X ∧ Blk (w.setCell ⟨b, j, none⟩ u) gi 91 vI.toArray := by
  have hg := gr_set w b j u
  exact ⟨hF.other sb ht hg, ib.grown hg (fun e => hne (by injection e with e; exact e.symm))⟩
end
end Go.Proofs.YtfpehakllnkaeaaDoor
