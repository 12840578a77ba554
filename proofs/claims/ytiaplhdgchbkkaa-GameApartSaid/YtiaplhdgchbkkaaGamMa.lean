
/- Game: a clone in a box of the call's own: words for GameMore. -/
import Derived.Test.YtiaplhdgchbkkaaGamCc
set_option linter.unusedSimpArgs false
set_option linter.unusedVariables false
namespace Go.Proofs.Ytiaplhdgchbkkaa
open Go.RowKit Go.IntWalk Go.Shelf

/-- Block b holds a game of the call's own, all of it at base or behind. -/
def OG (w : World) (base b : Nat) (g : Gm) : Prop := ∃ vG vM vs, Blk w b 25 #[vG, vM] ∧ base ≤ b ∧ OwnB w base vG g.1 ∧ OwnL w base vM vs ∧ Nest w vs g.2 ∧ ∀ i (hi : i < vs.length) q, vs[i].ownBlock = some q → base ≤ q
/-- Block b holds a game that can be read. -/
def RG (w : World) (b : Nat) (g : Gm) : Prop := ∃ Ag Am cg cm, Blk w b 25 #[.slice Ag g.1.length cg, .slice Am g.2.length cm] ∧ GmR w w.heap.size Ag Am g
theorem RG.below {w w' : World} {b : Nat} {g : Gm} (h : RG w b g) (hb : Below w.heap.size w w') : RG w' b g := by
  obtain ⟨Ag, Am, cg, cm, h1, h2⟩ := h
  exact ⟨Ag, Am, cg, cm, h1.below hb h1.lt, h2.to hb⟩
theorem OG.below {w w' : World} {base b : Nat} {g : Gm} (h : OG w base b g) (hb : Below w.heap.size w w') : OG w' base b g := by
  obtain ⟨vG, vM, vs, h1, h2, h3, h4, h5, h6⟩ := h
  exact ⟨vG, vM, vs, h1.below hb h1.lt, h2, own_kt (ts := [4]) h3 (KT.of_below hb) (by decide), own_kt (ts := [38]) h4 (KT.of_below hb) (by decide), h5.kt (ts := [3, 41]) (KT.of_below hb) (by decide) (by decide), h6⟩
theorem OG.read {w : World} {base b : Nat} {g : Gm} (h : OG w base b g) : RG w b g := by
  obtain ⟨vG, vM, vs, h1, h2, h3, h4, h5, h6⟩ := h
  obtain ⟨Ag, Am, cg, cm, rfl, rfl, hr⟩ := own_game h3 h4 h5
  exact ⟨Ag, Am, cg, cm, h1, hr⟩
/-- A clone, put in a box. -/
theorem CloneR.box {w w1 : World} {g : Gm} {vG vM : Value} (h : CloneR w w1 g vG vM) : OG (w1.alloc (Obj.cells #[vG, vM] 25)) w.heap.size w1.heap.size g ∧ Below w.heap.size w (w1.alloc (Obj.cells #[vG, vM] 25)) := by
  obtain ⟨vs, h1, h2, h3, h4, h5⟩ := h
  have b4 : Below w1.heap.size w1 (w1.alloc (Obj.cells #[vG, vM] 25)) := (Below.refl _ _).alloc (Nat.le_refl _) _
  exact ⟨⟨vG, vM, vs, Blk.new w1 _ _, h4.size, own_kt (ts := [4]) h1 (KT.of_below b4) (by decide), own_kt (ts := [38]) h2 (KT.of_below b4) (by decide), h3.kt (ts := [3, 41]) (KT.of_below b4) (by decide) (by decide), h5⟩, h4.trans (b4.mono h4.size)⟩
/-- A row of the call's own: one cell anew. -/
theorem own_set {w : World} {base : Nat} {e : TypeId} {size n q c : Nat} {xs : List Value} (h : w.ownsRow base e size (.slice (some ⟨q, 0, none⟩) n c) n xs) {k : Nat} (hk : k < n * size) (u : Value) : (w.setCell ⟨q, k, none⟩ u).ownsRow base e size (.slice (some ⟨q, 0, none⟩) n c) n (xs.set k u) := by
  rcases h.2 with ⟨hv, _⟩ | ⟨g, cap, cur, hv, hb, hh, hc, hm, hs, ht⟩
  · cases hv
  · injection hv with h1 h2 h3
    injection h1 with h1
    injection h1 with h1
    subst h1 h3
    have hh : Blk w q e cur := hh
    have hlen := congrArg List.length ht
    refine ⟨by simpa using h.1, .inr ⟨q, c, cur.setIfInBounds k u, rfl, hb, hh.set_ k u, hc, hm, by simpa using hs, ?_⟩⟩
    rw [Array.toList_setIfInBounds, ← ht, List.take_set]
/-- The goal's bit at p, set. -/
theorem OG.setGoal {w : World} {base b : Nat} {g : Gm} (h : OG w base b g) {p : Nat} (hp : p < g.1.length) : ∃ q cg vM, Blk w b 25 #[.slice (some ⟨q, 0, none⟩) g.1.length cg, vM] ∧ base ≤ q ∧ q < w.heap.size ∧ w.cell? ⟨q, p, none⟩ = some (.bool g.1[p]) ∧ w.frozen? ⟨q, p, none⟩ = false ∧ OG (w.setCell ⟨q, p, none⟩ (.bool true)) base b (moreGoal g p) := by
  obtain ⟨vG, vM, vs, h1, h2, h3, h4, h5, h6⟩ := h
  obtain ⟨q, cap, cur, rfl, hq, hb, hc, hm, hcell⟩ := own_cell h3 (by omega)
  have e1 := hcell p (by omega)
  have k9 : KT [3, 41, 38, 25] w (w.setCell ⟨q, p, none⟩ (.bool true)) := KT.of_set hb (by decide) _
  refine ⟨q, cap, vM, h1, hq, hb.lt, by rw [hb.cell, e1]; simp [hp], hb.frozen p, ⟨_, vM, vs, k9 _ _ _ (by decide) h1, h2, ?_, own_kt h4 k9 (by decide), h5.kt k9 (by decide) (by decide), h6⟩⟩
  have h9 := own_set h3 (k := p) (by omega) (.bool true)
  have e2 : (g.1.map Value.bool).set p (.bool true) = (g.1.set p true).map Value.bool := by rw [List.map_set]
  rw [e2] at h9
  unfold OwnB moreGoal
  simpa using h9
end Go.Proofs.Ytiaplhdgchbkkaa
