
/- Table, plain: the law of TableNeeds. -/
import Derived.Test.YtdjjhflhdhihcaaTabQ
set_option linter.unusedSimpArgs false
set_option linter.unusedVariables false
namespace Go.Proofs.Ytdjjhflhdhihcaa
open Go.RowKit Go.IntWalk

theorem act_pos {g : Gm} (hr : rightL g = true) {p : Nat} {m : Mv} (hm : m ∈ g.2.getD p []) : -1 < m.1 := by
  by_cases hp : p < g.2.length
  · have e : g.2.getD p [] = g.2[p] := by simp [hp]
    rw [e] at hm
    simp only [rightL, Bool.and_eq_true, decide_eq_true_eq, List.all_eq_true] at hr
    exact (mvsOK_mem (hr.2 _ (List.getElem_mem hp)) m hm).1
  · have e : g.2.getD p [] = [] := by simp [hp]
    rw [e] at hm
    cases hm
/-- A good row that leads somewhere is no goal, and leads to a row of a lesser rank. -/
theorem leads_good {g : Gm} (hr : rightL g = true) {rows : List Row} {y : Row} (hg : tGood g rows y = true) {t : Int} (hl : leads g y t) : g.1.getD y.1.toNat false = false ∧ ∃ x, tRow rows t = some x ∧ 0 ≤ x.2.2 ∧ x.2.2 < y.2.2 := by
  obtain ⟨m, hm, ht⟩ := hl
  obtain ⟨hp, ⟨h1, h2, h3⟩ | ⟨h1, h2, m', hm', hx⟩⟩ := good_parts hg
  · obtain ⟨-, hmm, e⟩ := tMove_mem hm
    have := act_pos hr hmm
    omega
  · rw [hm] at hm'
    injection hm' with hm'
    subst hm'
    exact ⟨h1, hx t ht⟩
section
variable {g : Gm} {rows l : List Row} {pos : Int} (hr : rightL g = true) (ha : Asc kP rows) (hg : ∀ r ∈ rows, tGood g rows r = true) (h : NdR g rows pos l)
include hr hg h
omit hr hg in
theorem NdR.sub : ∀ x ∈ l, x ∈ rows := fun x hx => (look_mem (h.mem x hx)).1
/-- A row of the greatest rank is the position's own. -/
theorem NdR.root_ex (hne : l ≠ []) : ∃ y ∈ l, y.1 = pos := by
  have key : ∀ l' : List Row, (∀ x ∈ l', x ∈ l) → l' ≠ [] → ∃ m ∈ l', ∀ y ∈ l', y.2.2 ≤ m.2.2 := by
    intro l'
    induction l' with
    | nil => intro _ h; exact absurd rfl h
    | cons a t ih =>
      intro hs _
      by_cases ht : t = []
      · subst ht
        exact ⟨a, List.mem_cons_self .., fun y hy => by rw [List.mem_singleton.1 hy]; exact Int.le_refl _⟩
      · obtain ⟨m, hm, hmx⟩ := ih (fun x hx => hs x (List.mem_cons_of_mem _ hx)) ht
        by_cases hle : m.2.2 ≤ a.2.2
        · refine ⟨a, List.mem_cons_self .., fun y hy => ?_⟩
          rcases List.mem_cons.1 hy with rfl | hy
          · exact Int.le_refl _
          · have := hmx y hy; omega
        · refine ⟨m, List.mem_cons_of_mem _ hm, fun y hy => ?_⟩
          rcases List.mem_cons.1 hy with rfl | hy
          · omega
          · exact hmx y hy
  obtain ⟨m, hm, hmx⟩ := key l (fun _ h => h) hne
  rcases h.re m hm with e | ⟨y, hy, hl⟩
  · exact ⟨m, hm, e⟩
  · have hyr := (look_mem (h.mem y hy)).1
    obtain ⟨-, z, hz, hz0, hz1⟩ := leads_good hr (hg y hyr) hl
    rw [h.mem m hm] at hz
    injection hz with hz
    subst hz
    have := hmx y hy
    omega
theorem NdR.some_iff : decide (0 < l.length) = (tRow rows pos).isSome := by
  cases hs : tRow rows pos with
  | none =>
    have : l = [] := Classical.byContradiction fun hne => by
      obtain ⟨y, hy, e⟩ := NdR.root_ex hr hg h hne
      have := h.mem y hy
      rw [e, hs] at this
      cases this
    subst this
    rfl
  | some x =>
    rcases h.st with e | ⟨y, hy, e⟩
    · rw [hs] at e; cases e
    · have := List.length_pos_of_mem hy
      simp only [Option.isSome]
      exact decide_eq_true this
omit hr hg in
theorem NdR.look_l {t : Int} {y : Row} (hy : y ∈ l) (e : y.1 = t) : tRow l t = some y := by rw [← e]; exact h.asc.look hy
omit hr in
theorem NdR.good : ∀ x ∈ l, tGood g l x = true := by
  intro x hx
  have hgx := hg x (h.sub x hx)
  obtain ⟨hp, ⟨h1, h2, h3⟩ | ⟨h1, h2, m, hm, ht⟩⟩ := good_parts hgx
  · unfold tGood
    rw [hp, h1, h2, h3]
    rfl
  · refine good_of hp h1 h2 hm fun t htm => ?_
    obtain ⟨z, hz, hz0, hz1⟩ := ht t htm
    rcases h.cl x hx t ⟨m, hm, htm⟩ with e | ⟨y, hy, e⟩
    · rw [hz] at e; cases e
    · have := h.mem y hy
      rw [e, hz] at this
      injection this with this
      subst this
      unfold okTo
      rw [NdR.look_l h hy e]
      simp only [Bool.and_eq_true, decide_eq_true_eq]
      exact ⟨hz0, hz1⟩
omit hr hg in
theorem NdR.same {p : Int} (hc : tRow rows p = none ∨ ∃ y ∈ l, y.1 = p) : tRow l p = tRow rows p := by
  rcases hc with e | ⟨y, hy, e⟩
  · rw [e]
    exact look_none fun x hx hxe => look_none_iff e x (h.sub x hx) hxe
  · have := h.mem y hy
    rw [e] at this
    rw [this, ← e]
    exact h.asc.look hy
omit hg in
theorem NdR.fol : ∀ (bs : List Int) (p : Int), (tRow rows p = none ∨ ∃ y ∈ l, y.1 = p) → folF g l p bs = folF g rows p bs
  | [], _, _ => rfl
  | a :: bs, p, hc => by
    have hs : stepF g l p a = stepF g rows p a := by unfold stepF; rw [NdR.same h hc]
    simp only [folF]
    rw [hs]
    cases hq : stepF g rows p a with
    | none => rfl
    | some q =>
      simp only
      congr 1
      refine NdR.fol bs q ?_
      unfold stepF at hq
      cases hrow : tRow rows p with
      | none => rw [hrow] at hq; cases hq
      | some r =>
        rw [hrow] at hq
        simp only at hq
        split at hq
        · cases hq
        · cases hmv : tMove g p r.2.1 with
          | none => rw [hmv] at hq; cases hq
          | some m =>
            rw [hmv] at hq
            simp only [Option.some.injEq] at hq
            obtain ⟨hne, -⟩ := mvs_ne hr (tMove_mem hmv).2.1
            have hlt := (idxT_lt (n := m.2.length) (a := a) (by have := List.length_pos_iff.2 hne; omega)).1
            have hin : q ∈ m.2 := by
              rw [← hq, List.getD_eq_getElem?_getD, List.getElem?_eq_getElem (by omega)]
              exact List.getElem_mem _
            rcases hc with e | ⟨y, hy, e⟩
            · rw [e] at hrow; cases hrow
            · have := h.mem y hy
              rw [e, hrow] at this
              injection this with this
              subst this
              exact h.cl r hy q ⟨m, by rw [e]; exact hmv, hin⟩
omit hg in
theorem NdR.folL (bs : List Int) : Go.Proofs.Ytdjjhflhdhihcaa.folL g l pos bs = Go.Proofs.Ytdjjhflhdhihcaa.folL g rows pos bs := by
  unfold Go.Proofs.Ytdjjhflhdhihcaa.folL
  rw [NdR.fol hr h bs pos h.st]
theorem NdR.less {i : Nat} (hi : i < l.length) (hne : l[i].1 ≠ pos) {k c : Int} (hk : ChkR g (l.take i ++ l.drop (i + 1)) k c) : c = 25 := by
  rcases h.re l[i] (List.getElem_mem hi) with e | ⟨y, hy, hl⟩
  · exact absurd e hne
  · obtain ⟨hgo, z, hz, hz0, hz1⟩ := leads_good hr (hg y (h.sub y hy)) hl
    rw [h.mem _ (List.getElem_mem hi)] at hz
    injection hz with hz
    subst hz
    obtain ⟨j, hj, rfl⟩ := List.getElem_of_mem hy
    have hji : j ≠ i := fun e => by subst e; omega
    have hm : l[j] ∈ l.take i ++ l.drop (i + 1) := by
      rw [← List.eraseIdx_eq_take_drop_succ, List.mem_eraseIdx_iff_getElem]
      exact ⟨j, hj, hji, rfl⟩
    obtain ⟨q, hq, e⟩ := List.getElem_of_mem hm
    have hb : tGood g (l.take i ++ l.drop (i + 1)) l[j] = false := by
      cases hx : tGood g (l.take i ++ l.drop (i + 1)) l[j] with
      | false => rfl
      | true =>
        obtain ⟨-, x, hx2, -⟩ := leads_good hr hx hl
        rw [less_none h.asc hi] at hx2
        cases hx2
    exact (hk.bad (less_asc h.asc) hq (by rw [e]; exact hb)).1
end
end Go.Proofs.Ytdjjhflhdhihcaa
