
/- Game: a clone's list longer, or shorter; the list of positions that a move leads to, made longer: words for GameMore. -/
import Derived.Test.YtiaplhdgchbkkaaGamMc
set_option linter.unusedSimpArgs false
set_option linter.unusedVariables false
namespace Go.Proofs.Ytiaplhdgchbkkaa
open Go.RowKit Go.IntWalk Go.Shelf

theorem SlR.drop1 {T : Type} [Rep T] {w : World} {B b off : Nat} {l : List T} (h : SlR w B (some ⟨b, off, none⟩) l) : SlR w B (some ⟨b, off + Rep.size T, none⟩) (l.drop 1) := by
  intro k x hx
  rw [List.getElem?_drop] at hx
  obtain ⟨b', off', es, hA, hb, hs, hc, hr⟩ := h (1 + k) x hx
  injection hA with hA
  injection hA with e1 e2 _
  subst e1 e2
  refine ⟨b, off + Rep.size T, es, rfl, hb, hs, fun j u hu => ?_, hr⟩
  have := hc j u hu
  rw [show off + Rep.size T + k * Rep.size T + j = off + (1 + k) * Rep.size T + j by rw [Nat.add_mul]; omega]
  exact this
/-- A list's block is another than the box's, and than the row of lists. -/
theorem OGx.far {w : World} {base b q n cm p : Nat} {g : Gm} {vG : Value} {vs : List Value} (h : OGx w base b g vG (.slice (some ⟨q, 0, none⟩) n cm) vs) (hp : p < g.2.length) : (vs.getD p (.bool false)).ownBlock ≠ some b ∧ (vs.getD p (.bool false)).ownBlock ≠ some q ∧ (∀ r, (vs.getD p (.bool false)).ownBlock = some r → base ≤ r) ∧ base ≤ q ∧ q < w.heap.size := by
  have hl := h.nest.len
  have hpv : p < vs.length := by omega
  have e3 : vs.getD p (.bool false) = vs[p] := by simp [hpv]
  obtain ⟨ys, hyo, _⟩ := h.nest.at_ p hpv hp
  obtain ⟨q', cap, cur, e2, hq, hb, hc, hm, hcell⟩ := own_cell h.mvs (by omega)
  injection e2 with e2 _ _
  injection e2 with e2
  injection e2 with e2
  subst e2
  rw [e3]
  exact ⟨own_blk_ne hyo h.blk (by decide), own_blk_ne hyo hb (by decide), fun r e => h.low p hpv r e, hq, hb.lt⟩
/-- One move more at the end of list p: what append gives, put in the list's place. -/
theorem OGx.more {w w' : World} {base b q cm p : Nat} {g : Gm} {vG : Value} {vs : List Value} (h : OGx w base b g vG (.slice (some ⟨q, 0, none⟩) g.2.length cm) vs) (hp : p < g.2.length) (hg : w.grownBy w' (vs.getD p (.bool false)).ownBlock)
    {xs : List (Int × Value)} {v' : Value} {y : Int × Value} {ts : List Int} (hr : MvR w xs g.2[p]) (ho : OwnM w' 0 v' (xs ++ [y])) (hy : I64 y.1) (hT : OwnI w 0 y.2 ts) (hti : ∀ t ∈ ts, I64 t) :
    RG (w'.setCell ⟨q, p, none⟩ v') b (setMvs g p (g.2[p] ++ [(y.1, ts)])) := by
  have hl := h.nest.len
  have hpv : p < vs.length := by omega
  have e3 : vs.getD p (.bool false) = vs[p] := by simp [hpv]
  obtain ⟨ys, hyo, _⟩ := h.nest.at_ p hpv hp
  have k1 : KT [3, 4, 38, 25] w w' := KT.of_grown hg (fun q e => by rw [e3] at e; obtain ⟨_, cs, hb⟩ := own_blk hyo q e; exact ⟨_, cs, hb, by decide⟩)
  have hm1 : OwnL w' base (.slice (some ⟨q, 0, none⟩) g.2.length cm) vs := own_kt h.mvs k1 (by decide)
  obtain ⟨q', cap, cur, e2, hq, hb, hc, hm, hcell⟩ := own_cell hm1 (by omega)
  injection e2 with e2 _ _
  injection e2 with e2
  injection e2 with e2
  subst e2
  have k2 : KT [3, 4, 41, 25] w' (w'.setCell ⟨q, p, none⟩ v') := KT.of_set hb (by decide) _
  have hR := (hr.snoc hy hT hti).kt k1 (by decide)
  obtain ⟨A, c, e, h1, h2, h3⟩ := mv_slr (own_kt ho k2 (by decide)) (hR.kt k2 (by decide))
  have e9 : v' = .slice A (g.2[p] ++ [(y.1, ts)]).length c := by rw [e]
  rw [e9] at h3 ⊢
  exact h.put hp hg h1 h2 h3
/-- .. and the first move gone (Go leaves the address alone where no room is left). -/
theorem OGx.less {w : World} {base b q cm p mb c : Nat} {g : Gm} {vG : Value} {vs : List Value} (h : OGx w base b g vG (.slice (some ⟨q, 0, none⟩) g.2.length cm) vs) (hp : p < g.2.length)
    {xs : List (Int × Value)} (ho : OwnM w 0 (vs.getD p (.bool false)) xs) (hr : MvR w xs g.2[p]) (hv : vs.getD p (.bool false) = .slice (some ⟨mb, 0, none⟩) g.2[p].length c) (h0 : 0 < g.2[p].length) {A : Option Addr} (hA : A = if c = 1 then some ⟨mb, 0, none⟩ else some ⟨mb, 2, none⟩) :
    RG (w.setCell ⟨q, p, none⟩ (.slice A (g.2[p].length - 1) (c - 1))) b (setMvs g p (g.2[p].drop 1)) := by
  have hl := h.nest.len
  obtain ⟨q', cap, cur, e2, hq, hb, hc, hm, hcell⟩ := own_cell h.mvs (by omega)
  injection e2 with e2 _ _
  injection e2 with e2
  injection e2 with e2
  subst e2
  have k2 : KT [3, 4, 41, 25] w (w.setCell ⟨q, p, none⟩ (.slice A (g.2[p].length - 1) (c - 1))) := KT.of_set hb (by decide) _
  obtain ⟨A', c', e, h1, h2, h3⟩ := mv_slr (own_kt ho k2 (by decide)) (hr.kt k2 (by decide))
  rw [hv] at e
  injection e with e4 _ e5
  subst e4 e5
  have e6 : g.2[p].length - 1 = (g.2[p].drop 1).length := by simp
  have h4 : SlR (w.setCell ⟨q, p, none⟩ (.slice A (g.2[p].length - 1) (c - 1))) (w.setCell ⟨q, p, none⟩ (.slice A (g.2[p].length - 1) (c - 1))).heap.size A (g.2[p].drop 1) := by
    by_cases hc1 : c = 1
    · have : g.2[p].drop 1 = [] := List.eq_nil_of_length_eq_zero (by rw [← e6]; omega)
      rw [this]
      exact SlR.nil
    · rw [if_neg hc1] at hA
      have h5 := h3.drop1
      have e7 : Rep.size Mv = 2 := rfl
      rw [e7, Nat.zero_add, ← hA] at h5
      exact h5
  rw [e6] at h4 ⊢
  exact h.put hp (World.grownBy.refl _ _) (by rw [← e6]; omega) (by omega) h4
/-! ### The list of positions, one more among them -/
def inK (tt : Nat) (to_ : List Int) (i k : Nat) : Bool := (i == tt) || (to_.take k).any (fun x => x == (i : Int))
theorem inK_succ {tt : Nat} {to_ : List Int} {i k : Nat} (hk : k < to_.length) : inK tt to_ i (k + 1) = (inK tt to_ i k || (to_[k] == (i : Int))) := by
  unfold inK
  have e : to_.take (k + 1) = to_.take k ++ [to_[k]] := by rw [List.take_add_one, List.getElem?_eq_getElem hk]; rfl
  rw [e, List.any_append, List.any_cons, List.any_nil, Bool.or_false, Bool.or_assoc]
def wideK (tt : Nat) (to_ : List Int) (i : Nat) : List Int := ((List.range i).filter (fun x => inK tt to_ x to_.length)).map (fun x : Nat => (x : Int))
theorem wideK_succ (tt : Nat) (to_ : List Int) (i : Nat) : wideK tt to_ (i + 1) = wideK tt to_ i ++ (if inK tt to_ i to_.length then [(i : Int)] else []) := by
  unfold wideK
  rw [List.range_succ, List.filter_append, List.map_append]
  congr 1
  by_cases h : inK tt to_ i to_.length <;> simp [h]
theorem wideK_mem {tt : Nat} {to_ : List Int} {i : Nat} {x : Int} : x ∈ wideK tt to_ i ↔ ∃ k : Nat, k < i ∧ (k = tt ∨ x ∈ to_) ∧ x = k := by
  unfold wideK inK
  simp only [List.mem_map, List.mem_filter, List.mem_range, List.take_length, Bool.or_eq_true, beq_iff_eq, List.any_eq_true]
  constructor
  · rintro ⟨a, ⟨h1, h2⟩, rfl⟩
    refine ⟨a, h1, ?_, rfl⟩
    rcases h2 with h2 | ⟨y, hy, rfl⟩
    · exact .inl h2
    · exact .inr hy
  · rintro ⟨k, h1, h2, rfl⟩
    refine ⟨k, ⟨h1, ?_⟩, rfl⟩
    rcases h2 with h2 | h2
    · exact .inl h2
    · exact .inr ⟨_, h2, rfl⟩
theorem wideK_nodup (tt : Nat) (to_ : List Int) (i : Nat) : (wideK tt to_ i).Nodup := by
  unfold wideK
  refine List.pairwise_map.2 ((List.nodup_range.filter _).imp ?_)
  intro a b hab e
  exact hab (by omega)
theorem wideK_len (tt : Nat) (to_ : List Int) (i : Nat) : (wideK tt to_ i).length ≤ i := by
  unfold wideK
  rw [List.length_map]
  have := List.length_filter_le (fun x => inK tt to_ x to_.length) (List.range i)
  simpa using this
theorem wideK_i64 (tt : Nat) (to_ : List Int) (i : Nat) (hi : i ≤ 1000) : ∀ t ∈ wideK tt to_ i, I64 t := by
  intro t ht
  obtain ⟨k, hk, _, rfl⟩ := wideK_mem.1 ht
  exact ⟨by omega, by omega⟩
/-- Few moves, each with few positions. -/
theorem few_len {g : Gm} {n : Int} (h : fewL g n = true) {p : Nat} (hp : p < g.2.length) : g.2[p].length ≤ 12 := by
  simp only [fewL, Bool.and_eq_true, List.all_eq_true] at h
  have := h.1.1 _ (List.getElem_mem hp)
  simp only [fewM, Bool.and_eq_true, decide_eq_true_eq] at this
  omega
theorem eased_refl (g : Gm) : Eased g g := ⟨rfl, fun _ _ h => h, fun _ _ m hm => ⟨m, hm, fun t ht => ht⟩⟩
/-- What GameMore's four games need. -/
theorem more_more {g : Gm} (hg : GmOK g) {p tt : Nat} (hp : p < g.2.length) (htt : tt < g.1.length) {a : Int} (hl : g.2[p].length ≤ 12) : GmOK (setMvs g p (g.2[p] ++ [(a, [(tt : Int)])])) ∧ Eased g (setMvs g p (g.2[p] ++ [(a, [(tt : Int)])])) := by
  have hgk : g.2.getD p [] = g.2[p] := by rw [List.getD, List.getElem?_eq_getElem hp]; rfl
  refine ⟨setMvs_ok hg (by simp; omega) (fun m hm => ?_), eased_more hp (fun m hm => ⟨m, ?_, fun t ht => ht⟩)⟩
  · rcases List.mem_append.1 hm with hm | hm
    · exact hg.m _ (List.getElem_mem hp) m hm
    · simp only [List.mem_singleton] at hm
      subst hm
      exact ⟨by simp, by simp, by simp, fun t ht => by simp at ht; omega⟩
  · rw [hgk] at hm
    exact List.mem_append_left _ hm
theorem more_less {g : Gm} (hg : GmOK g) {p : Nat} (hp : p < g.2.length) : GmOK (setMvs g p (g.2[p].drop 1)) ∧ Eased (setMvs g p (g.2[p].drop 1)) g := by
  have hgk : g.2.getD p [] = g.2[p] := by rw [List.getD, List.getElem?_eq_getElem hp]; rfl
  refine ⟨setMvs_ok hg (by have := hg.l _ (List.getElem_mem hp); simp; omega) (fun m hm => hg.m _ (List.getElem_mem hp) m (List.mem_of_mem_drop hm)), eased_less hp (fun m hm => ⟨m, ?_, fun t ht => ht⟩)⟩
  rw [hgk]
  exact List.mem_of_mem_drop hm
theorem more_wide {g : Gm} (hg : GmOK g) {p tt : Nat} (hp : p < g.2.length) (htt : tt < g.1.length) (h0 : 0 < g.2[p].length) :
    GmOK (setMvs g p (g.2[p].set 0 (g.2[p][0].1, wideK tt g.2[p][0].2 g.1.length))) ∧ Eased (setMvs g p (g.2[p].set 0 (g.2[p][0].1, wideK tt g.2[p][0].2 g.1.length))) g := by
  have hgk : g.2.getD p [] = g.2[p] := by rw [List.getD, List.getElem?_eq_getElem hp]; rfl
  have hs := hg.s
  refine ⟨setMvs_ok hg (by have := hg.l _ (List.getElem_mem hp); simp; omega) (fun m hm => ?_), eased_less hp (fun m hm => ?_)⟩
  · rcases List.mem_or_eq_of_mem_set hm with hm | rfl
    · exact hg.m _ (List.getElem_mem hp) m hm
    · refine ⟨by have := wideK_len tt g.2[p][0].2 g.1.length; simp only; omega, wideK_nodup _ _ _, ?_, fun t ht => ?_⟩
      · intro e
        have : (tt : Int) ∈ wideK tt g.2[p][0].2 g.1.length := wideK_mem.2 ⟨tt, htt, .inl rfl, rfl⟩
        simp only at e
        rw [e] at this
        cases this
      · obtain ⟨k, hk, _, rfl⟩ := wideK_mem.1 ht
        omega
  · rw [hgk]
    rcases List.mem_or_eq_of_mem_set hm with hm | rfl
    · exact ⟨m, hm, fun t ht => ht⟩
    · refine ⟨g.2[p][0], List.getElem_mem h0, fun t ht => ?_⟩
      have := (hg.m _ (List.getElem_mem hp) g.2[p][0] (List.getElem_mem h0)).2.2.2 t ht
      exact wideK_mem.2 ⟨t.toNat, by omega, .inr ht, by omega⟩
end Go.Proofs.Ytiaplhdgchbkkaa
