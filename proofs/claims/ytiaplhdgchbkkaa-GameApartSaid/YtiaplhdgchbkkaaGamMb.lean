
/- Game: a clone's list changed: words for GameMore. -/
import Derived.Test.YtiaplhdgchbkkaaGamMa
set_option linter.unusedSimpArgs false
set_option linter.unusedVariables false
namespace Go.Proofs.Ytiaplhdgchbkkaa
open Go.RowKit Go.IntWalk Go.Shelf

theorem rows_slr {w : World} {base : Nat} {v : Value} {vs : List Value} {ls : List (List Mv)} (h : OwnL w base v vs) (hl : vs.length = ls.length)
    (hat : ∀ k (h1 : k < vs.length) (h2 : k < ls.length), ∃ A c, vs[k] = .slice A ls[k].length c ∧ ls[k].length ≤ c ∧ c ≤ maxLen ∧ SlR w w.heap.size A ls[k]) : ∃ A c, v = .slice A ls.length c ∧ ls.length ≤ c ∧ c ≤ maxLen ∧ SlR w w.heap.size A ls := by
  by_cases h0 : 0 < vs.length
  · obtain ⟨g, cap, cur, hv, _, hb, hc, hm, hcell⟩ := own_cell h h0
    refine ⟨_, cap, by rw [hv, hl], by omega, hm, SlR.of_blk hb hb.lt (fun k x hx => ?_)⟩
    obtain ⟨hk, rfl⟩ := List.getElem?_eq_some_iff.1 hx
    have hkv : k < vs.length := by omega
    obtain ⟨A', c', hv', h1, h2, h3⟩ := hat k hkv hk
    refine ⟨[.slice A' ls[k].length c'], rfl, ⟨A', c', rfl, h1, h2, h3⟩, fun j u hu => ?_⟩
    have h4 : Rep.size (List Mv) = 1 := rfl
    rw [h4, Nat.mul_one]
    match j, hu with
    | 0, hu => simp at hu; subst hu; rw [Nat.add_zero, hcell _ (by omega), List.getElem?_eq_getElem hkv, hv']
    | j + 1, hu => simp at hu
  · have e : ls = [] := List.eq_nil_of_length_eq_zero (by omega)
    subst e
    rcases h.2 with ⟨hv, _⟩ | ⟨g, cap, cur, hv, _, _, hc, hm, _⟩
    · exact ⟨none, 0, hv, Nat.le_refl _, Nat.zero_le _, SlR.nil⟩
    · have : vs.length = 0 := by omega
      exact ⟨_, cap, by rw [hv, this]; rfl, Nat.zero_le _, hm, SlR.nil⟩
/-- OG with its parts named. -/
structure OGx (w : World) (base b : Nat) (g : Gm) (vG vM : Value) (vs : List Value) : Prop where
  blk : Blk w b 25 #[vG, vM]
  lo : base ≤ b
  goal : OwnB w base vG g.1
  mvs : OwnL w base vM vs
  nest : Nest w vs g.2
  low : ∀ i (hi : i < vs.length) q, vs[i].ownBlock = some q → base ≤ q
theorem OG.parts {w : World} {base b : Nat} {g : Gm} (h : OG w base b g) : ∃ vG vM vs, OGx w base b g vG vM vs := by
  obtain ⟨vG, vM, vs, h1, h2, h3, h4, h5, h6⟩ := h
  exact ⟨vG, vM, vs, h1, h2, h3, h4, h5, h6⟩
theorem OGx.og {w : World} {base b : Nat} {g : Gm} {vG vM : Value} {vs : List Value} (h : OGx w base b g vG vM vs) : OG w base b g := ⟨vG, vM, vs, h.1, h.2, h.3, h.4, h.5, h.6⟩
theorem OGx.below {w w' : World} {base b : Nat} {g : Gm} {vG vM : Value} {vs : List Value} (h : OGx w base b g vG vM vs) (hb : Below w.heap.size w w') : OGx w' base b g vG vM vs :=
  ⟨h.blk.below hb h.blk.lt, h.lo, own_kt (ts := [4]) h.goal (KT.of_below hb) (by decide), own_kt (ts := [38]) h.mvs (KT.of_below hb) (by decide), h.nest.kt (ts := [3, 41]) (KT.of_below hb) (by decide) (by decide), h.low⟩
/-- The forms of the two slices, and the row of the lists. -/
theorem OGx.form {w : World} {base b : Nat} {g : Gm} {vG vM : Value} {vs : List Value} (h : OGx w base b g vG vM vs) {p : Nat} (hp : p < g.2.length) : ∃ Ag cg q cm, vG = .slice Ag g.1.length cg ∧ vM = .slice (some ⟨q, 0, none⟩) g.2.length cm ∧ base ≤ q ∧ q < w.heap.size ∧ w.frozen? ⟨q, p, none⟩ = false ∧ w.cell? ⟨q, p, none⟩ = some (vs.getD p (.bool false)) ∧ ∃ xs A c, OwnM w 0 (vs.getD p (.bool false)) xs ∧ MvR w xs g.2[p] ∧ vs.getD p (.bool false) = .slice A g.2[p].length c := by
  have hl := h.nest.len
  obtain ⟨Ag, cg, e1, _, _, _⟩ := h.goal.slr
  obtain ⟨q, cap, cur, e2, hq, hb, hc, hm, hcell⟩ := own_cell h.mvs (by omega)
  have hpv : p < vs.length := by omega
  obtain ⟨xs, ho, hr⟩ := h.nest.at_ p hpv hp
  have e3 : vs.getD p (.bool false) = vs[p] := by simp [hpv]
  obtain ⟨A, c, e4, _, _, _⟩ := mv_slr ho hr
  exact ⟨Ag, cg, q, cap, e1, by rw [e2, hl], hq, hb.lt, hb.frozen p, by rw [hb.cell, hcell p (by omega), e3]; simp [hpv], xs, A, c, by rw [e3]; exact ho, hr, by rw [e3]; exact e4⟩
/-- One list anew: a list that can be read, put in its place. -/
theorem OGx.put {w w' : World} {base b q cm p : Nat} {g : Gm} {vG : Value} {vs : List Value} (h : OGx w base b g vG (.slice (some ⟨q, 0, none⟩) g.2.length cm) vs) (hp : p < g.2.length) (hg : w.grownBy w' (vs.getD p (.bool false)).ownBlock)
    {A : Option Addr} {c : Nat} {l : List Mv} (h1 : l.length ≤ c) (h2 : c ≤ maxLen) (hA : SlR (w'.setCell ⟨q, p, none⟩ (.slice A l.length c)) (w'.setCell ⟨q, p, none⟩ (.slice A l.length c)).heap.size A l) : RG (w'.setCell ⟨q, p, none⟩ (.slice A l.length c)) b (setMvs g p l) := by
  have hl := h.nest.len
  have hpv : p < vs.length := by omega
  have e3 : vs.getD p (.bool false) = vs[p] := by simp [hpv]
  rw [e3] at hg
  obtain ⟨xs, ho, hr⟩ := h.nest.at_ p hpv hp
  have k1 : KT [3, 4, 38, 25] w w' := KT.of_grown hg (fun q e => by obtain ⟨_, cs, hb⟩ := own_blk ho q e; exact ⟨_, cs, hb, by decide⟩)
  have hm1 : OwnL w' base (.slice (some ⟨q, 0, none⟩) g.2.length cm) vs := own_kt h.mvs k1 (by decide)
  obtain ⟨q', cap, cur, e2, hq, hb, hc, hm, hcell⟩ := own_cell hm1 (by omega)
  injection e2 with e2 _ _
  injection e2 with e2
  injection e2 with e2
  subst e2
  have k2 : KT [3, 4, 41, 25] w' (w'.setCell ⟨q, p, none⟩ (.slice A l.length c)) := KT.of_set hb (by decide) _
  have hgl := own_kt (own_kt h.goal k1 (by decide)) k2 (by decide)
  have hm2 : OwnL (w'.setCell ⟨q, p, none⟩ (.slice A l.length c)) base (.slice (some ⟨q, 0, none⟩) g.2.length cm) (vs.set p (.slice A l.length c)) := by
    have hm3 : w'.ownsRow base 38 1 (.slice (some ⟨q, 0, none⟩) vs.length cm) vs.length vs := by have h7 := hm1; rw [← hl] at h7; exact h7
    have h9 := own_set hm3 (k := p) (by omega) (.slice A l.length c)
    unfold OwnL
    rw [List.length_set, ← hl]
    exact h9
  obtain ⟨Ag, cg, e1, _, _, hsg⟩ := OwnB.slr hgl
  obtain ⟨Am, cm', e5, _, h7, hsm⟩ := rows_slr (ls := g.2.set p l) hm2 (by simp [hl]) (fun k hk1 hk2 => by
    by_cases hkp : k = p
    · subst hkp
      exact ⟨A, c, by simp, by simpa using h1, h2, by simpa using hA⟩
    · have hkv : k < vs.length := by simpa using hk1
      obtain ⟨ys, hy, hry⟩ := h.nest.at_ k hkv (by omega)
      have hy1 : OwnM w' 0 vs[k] ys := own_kept hy (fun q2 cs he hb2 => hb2.grown hg (fun e => h.nest.sep k p hkv hpv hkp q2 he e.symm))
      obtain ⟨A', c', e6, a1, a2, a3⟩ := mv_slr (own_kt hy1 k2 (by decide)) ((hry.kt k1 (by decide)).kt k2 (by decide))
      have hne : p ≠ k := fun e => hkp e.symm
      refine ⟨A', c', ?_, ?_, a2, ?_⟩
      · rw [List.getElem_set_ne hne, List.getElem_set_ne hne]; exact e6
      · rw [List.getElem_set_ne hne]; exact a1
      · rw [List.getElem_set_ne hne]; exact a3)
  subst e1
  have h8 : (setMvs g p l).2 = g.2.set p l := rfl
  have h9 : (setMvs g p l).1 = g.1 := rfl
  refine ⟨Ag, Am, cg, cm', ?_, ⟨by rw [h9]; exact hsg, by rw [h8]; exact hsm, by rw [h9]; omega, by rw [h8]; omega⟩⟩
  rw [h8, h9, ← e5]
  exact k2 _ _ _ (by decide) (k1 _ _ _ (by decide) h.blk)
end Go.Proofs.Ytiaplhdgchbkkaa
