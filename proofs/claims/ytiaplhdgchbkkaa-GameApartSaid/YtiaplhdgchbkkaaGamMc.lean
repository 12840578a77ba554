
/- Game: a clone's first move changed: words for GameMore. -/
import Derived.Test.YtiaplhdgchbkkaaGamMb
set_option linter.unusedSimpArgs false
set_option linter.unusedVariables false
namespace Go.Proofs.Ytiaplhdgchbkkaa
open Go.RowKit Go.IntWalk Go.Shelf

theorem mcs_set0 : ∀ (xs : List (Int × Value)) (v : Value) (h : 0 < xs.length), (mcs xs).set 1 v = mcs (xs.set 0 (xs[0].1, v))
  | x :: xs, v, _ => by simp [mcs]
theorem MvR.set0 {w : World} {xs : List (Int × Value)} {l : List Mv} (h : MvR w xs l) (hx : 0 < xs.length) (hl : 0 < l.length) {v : Value} {ts : List Int} (hT : OwnI w 0 v ts) (hti : ∀ t ∈ ts, I64 t) : MvR w (xs.set 0 (xs[0].1, v)) (l.set 0 (l[0].1, ts)) := by
  refine ⟨by simp [h.len], fun k h1 h2 => ?_⟩
  by_cases hk : k = 0
  · subst hk
    obtain ⟨a, b, _, _⟩ := h.at_ 0 hx hl
    simp only [List.getElem_set_self]
    exact ⟨a, b, hT, hti⟩
  · have hne : (0 : Nat) ≠ k := fun e => hk e.symm
    have h3 : k < xs.length := by simpa using h1
    have h4 : k < l.length := by simpa using h2
    have := h.at_ k h3 h4
    simpa [List.getElem_set_ne hne] using this
/-- The first move of list p leads elsewhere now. -/
theorem OGx.setTo {w : World} {base b p : Nat} {g : Gm} {vG vM : Value} {vs : List Value} (h : OGx w base b g vG vM vs) (hp : p < g.2.length) (hl0 : 0 < g.2[p].length) {vT : Value} {ts : List Int} (hT : OwnI w 0 vT ts) (hti : ∀ t ∈ ts, I64 t) :
    ∃ mb cap u, vs.getD p (.bool false) = .slice (some ⟨mb, 0, none⟩) g.2[p].length cap ∧ base ≤ mb ∧ mb < w.heap.size ∧ w.frozen? ⟨mb, 1, none⟩ = false ∧ w.cell? ⟨mb, 1, none⟩ = some u ∧ RG (w.setCell ⟨mb, 1, none⟩ vT) b (setMvs g p (g.2[p].set 0 (g.2[p][0].1, ts))) := by
  have hl := h.nest.len
  have hpv : p < vs.length := by omega
  have e3 : vs.getD p (.bool false) = vs[p] := by simp [hpv]
  obtain ⟨xs, ho, hr⟩ := h.nest.at_ p hpv hp
  have hxl := hr.len
  have hx0 : 0 < xs.length := by omega
  obtain ⟨mb, cap, cur, hv, _, hb, hc, hm, hcell⟩ := own_cell ho hx0
  have hlow := h.low p hpv mb (by rw [hv]; rfl)
  have k2 : KT [3, 4, 38, 25] w (w.setCell ⟨mb, 1, none⟩ vT) := KT.of_set hb (by decide) _
  refine ⟨mb, cap, xs[0].2, by rw [e3, hv, hxl], hlow, hb.lt, hb.frozen 1, by rw [hb.cell, hcell 1 (by omega)]; exact (mcs_at xs 0 hx0).2, ?_⟩
  have hgl := own_kt h.goal k2 (by decide)
  have hm2 : OwnL (w.setCell ⟨mb, 1, none⟩ vT) base vM vs := own_kt h.mvs k2 (by decide)
  have ho2 : OwnM (w.setCell ⟨mb, 1, none⟩ vT) 0 vs[p] (xs.set 0 (xs[0].1, vT)) := by
    have h7 := ho
    rw [hv] at h7
    have h9 := own_set h7 (k := 1) (by omega) vT
    rw [mcs_set0 xs vT hx0] at h9
    unfold OwnM
    rw [List.length_set, hv]
    exact h9
  have hr2 : MvR (w.setCell ⟨mb, 1, none⟩ vT) (xs.set 0 (xs[0].1, vT)) (g.2[p].set 0 (g.2[p][0].1, ts)) := (hr.kt k2 (by decide)).set0 hx0 hl0 (own_kt hT k2 (by decide)) hti
  obtain ⟨Ag, cg, e1, _, _, hsg⟩ := OwnB.slr hgl
  obtain ⟨Am, cm', e5, _, h7, hsm⟩ := rows_slr (ls := g.2.set p (g.2[p].set 0 (g.2[p][0].1, ts))) hm2 (by simp [hl]) (fun k hk1 hk2 => by
    by_cases hkp : k = p
    · subst hkp
      have := mv_slr ho2 hr2
      simpa using this
    · obtain ⟨ys, hy, hry⟩ := h.nest.at_ k hk1 (by omega)
      have hy1 : OwnM (w.setCell ⟨mb, 1, none⟩ vT) 0 vs[k] ys := own_kept hy (fun q2 cs he hb2 => hb2.grown (gr_set w mb 1 vT) (fun e => h.nest.sep k p hk1 hpv hkp q2 he (by rw [hv]; exact e.symm)))
      obtain ⟨A', c', e6, a1, a2, a3⟩ := mv_slr hy1 (hry.kt k2 (by decide))
      have hne : p ≠ k := fun e => hkp e.symm
      refine ⟨A', c', ?_, ?_, a2, ?_⟩
      · rw [List.getElem_set_ne hne]; exact e6
      · rw [List.getElem_set_ne hne]; exact a1
      · rw [List.getElem_set_ne hne]; exact a3)
  subst e1 e5
  have h8 : (setMvs g p (g.2[p].set 0 (g.2[p][0].1, ts))).2 = g.2.set p (g.2[p].set 0 (g.2[p][0].1, ts)) := rfl
  have h9 : (setMvs g p (g.2[p].set 0 (g.2[p][0].1, ts))).1 = g.1 := rfl
  refine ⟨Ag, Am, cg, cm', ?_, ⟨by rw [h9]; exact hsg, by rw [h8]; exact hsm, by rw [h9]; omega, by rw [h8]; omega⟩⟩
  rw [h8, h9]
  exact k2 _ _ _ (by decide) h.blk
theorem CloneR.form {w w1 : World} {g : Gm} {vG vM : Value} (h : CloneR w w1 g vG vM) : ∃ Ag cg Am cm, vG = .slice Ag g.1.length cg ∧ vM = .slice Am g.2.length cm := by
  obtain ⟨vs, h1, h2, h3, _, _⟩ := h
  obtain ⟨Ag, Am, cg, cm, e1, e2, _⟩ := own_game h1 h2 h3
  exact ⟨Ag, cg, Am, cm, e1, e2⟩
theorem Blk.uniq {w : World} {b : Nat} {t : TypeId} {cs cs' : Array Value} (h : Blk w b t cs) (h' : Blk w b t cs') : cs = cs' := by
  have h1 : w.heap[b]? = _ := h
  have h2 : w.heap[b]? = _ := h'
  rw [h1] at h2
  injection h2 with h2
  injection h2
theorem CloneR.boxx {w w1 : World} {g : Gm} {Ag Am : Option Addr} {n m cg cm : Nat} (h : CloneR w w1 g (.slice Ag n cg) (.slice Am m cm)) (hn : 0 < g.1.length) : ∃ q vs, Ag = some ⟨q, 0, none⟩ ∧ w.heap.size ≤ q ∧ OGx (w1.alloc (Obj.cells #[.slice Ag n cg, .slice Am m cm] 25)) w.heap.size w1.heap.size g (.slice Ag n cg) (.slice Am m cm) vs ∧ Below w.heap.size w (w1.alloc (Obj.cells #[.slice Ag n cg, .slice Am m cm] 25)) := by
  obtain ⟨h1, h2⟩ := h.box
  obtain ⟨vG, vM, vs, a1, a2, a3, a4, a5, a6⟩ := h1
  have e := (Blk.new w1 25 #[.slice Ag n cg, .slice Am m cm]).uniq a1
  have e1 : Value.slice Ag n cg = vG := by have := congrArg (fun c => c[0]?) e; simpa using this
  have e2 : Value.slice Am m cm = vM := by have := congrArg (fun c => c[1]?) e; simpa using this
  subst e1 e2
  obtain ⟨q, cap, cur, e3, hq, _⟩ := own_cell a3 hn
  injection e3 with e3 _ _
  exact ⟨q, vs, e3, hq, ⟨a1, a2, a3, a4, a5, a6⟩, h2⟩
theorem OGx.setGoal {w : World} {base b n q c : Nat} {g : Gm} {vM : Value} {vs : List Value} (h : OGx w base b g (.slice (some ⟨q, 0, none⟩) n c) vM vs) {p : Nat} (hp : p < g.1.length) : q < w.heap.size ∧ w.cell? ⟨q, p, none⟩ = some (.bool g.1[p]) ∧ w.frozen? ⟨q, p, none⟩ = false ∧ OG (w.setCell ⟨q, p, none⟩ (.bool true)) base b (moreGoal g p) := by
  obtain ⟨q', c', vM', a1, _, a3, a4, a5, a6⟩ := h.og.setGoal hp
  have e := h.blk.uniq a1
  have e1 : Value.slice (some ⟨q, 0, none⟩) n c = .slice (some ⟨q', 0, none⟩) g.1.length c' := by have := congrArg (fun c => c[0]?) e; simpa using this
  injection e1 with e1 _ _
  injection e1 with e1
  injection e1 with e1
  subst e1
  exact ⟨a3, a4, a5, a6⟩
end Go.Proofs.Ytiaplhdgchbkkaa
