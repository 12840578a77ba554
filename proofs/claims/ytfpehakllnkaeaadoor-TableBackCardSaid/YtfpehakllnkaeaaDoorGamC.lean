
/- Game: begin: the lists of the solver, step by step. -/
import Derived.Test.YtfpehakllnkaeaaDoorGamB
set_option linter.unusedSimpArgs false
set_option linter.unusedVariables false
namespace Go.Proofs.YtfpehakllnkaeaaDoor
open Go.RowKit Go.IntWalk

theorem flatF_app : ∀ (a b : List (List Mv)) (k : Nat), flatF k (a ++ b) = flatF k a ++ flatF (k + a.length) b
  | [], b, k => by simp [flatF]
  | x :: a, b, k => by
    rw [List.cons_append, flatF, flatF_app a b (k + 1), flatF, List.append_assoc]
    simp only [List.length_cons, show k + (a.length + 1) = k + 1 + a.length by omega]
abbrev mvN (p : Nat) (m : Mv) : Nat × List Nat := (p, m.2.map Int.toNat)
theorem flatF_take (l : List (List Mv)) (p : Nat) (h : p < l.length) : flatF 0 (l.take (p + 1)) = flatF 0 (l.take p) ++ l[p].map (mvN p) := by
  rw [List.take_add_one, List.getElem?_eq_getElem h, Option.toList_some, flatF_app]
  simp [flatF, Nat.min_eq_left (Nat.le_of_lt h)]
theorem intoN_app : ∀ (a : List (Nat × List Nat)) (m : Nat × List Nat) (k t : Nat), intoN (a ++ [m]) k t = intoN a k t ++ (if t ∈ m.2 then [k + a.length] else [])
  | [], m, k, t => by simp [intoN]
  | x :: a, m, k, t => by
    rw [List.cons_append, intoN, intoN_app a m (k + 1) t, intoN, List.append_assoc]
    simp only [List.length_cons, show k + 1 + a.length = k + (a.length + 1) by omega]
theorem into_len : ∀ (fm : List (Nat × List Nat)) (k t : Nat), (intoN fm k t).length ≤ fm.length
  | [], k, t => by simp [intoN]
  | x :: r, k, t => by
    have := into_len r (k + 1) t
    rw [intoN, List.length_append, List.length_cons]
    split <;> simp <;> omega
/-- The moves into each position, as numbers, a part of the next move's positions among them. -/
def ilist (fm : List (Nat × List Nat)) (pre : List Nat) (n : Nat) : List (List Int) := (List.range n).map (fun t => (intoN fm 0 t ++ (if t ∈ pre then [fm.length] else [])).map Int.ofNat)
theorem ilist_len (fm : List (Nat × List Nat)) (pre : List Nat) (n : Nat) : (ilist fm pre n).length = n := by simp [ilist]
theorem ilist_get (fm : List (Nat × List Nat)) (pre : List Nat) (n t : Nat) (h : t < (ilist fm pre n).length) : (ilist fm pre n)[t] = (intoN fm 0 t ++ (if t ∈ pre then [fm.length] else [])).map Int.ofNat := by simp [ilist]
theorem ilist_step (fm : List (Nat × List Nat)) (pre : List Nat) (n t : Nat) (h : t < n) (hp : t ∉ pre) : (ilist fm pre n).set t ((ilist fm pre n)[t]'(by rw [ilist_len]; exact h) ++ [(fm.length : Int)]) = ilist fm (pre ++ [t]) n := by
  apply List.ext_getElem
  · simp [ilist]
  · intro j h1 h2
    rw [List.getElem_set]
    split
    · rename_i e
      subst e
      simp only [ilist_get]
      simp [hp]
    · rename_i e
      simp only [ilist_get]
      have : j ∈ pre ++ [t] ↔ j ∈ pre := by
        simp only [List.mem_append, List.mem_cons, List.not_mem_nil, or_false]
        exact ⟨fun h => h.resolve_right (fun e' => e e'.symm), .inl⟩
      simp only [this]
theorem ilist_end (fm : List (Nat × List Nat)) (m : Nat × List Nat) (n : Nat) : ilist fm m.2 n = ilist (fm ++ [m]) [] n := by
  unfold ilist
  apply List.map_congr_left
  intro t _
  rw [intoN_app]
  simp
theorem ilist_start (n : Nat) : ilist [] [] n = List.replicate n [] := by
  apply List.ext_getElem
  · simp [ilist]
  · intro j h1 h2
    rw [ilist_get]
    simp [intoN]
/-- The rows of the solver, from the moves. -/
abbrev ownL (fm : List (Nat × List Nat)) : List Int := fm.map (fun m => (m.1 : Int))
abbrev lenL (fm : List (Nat × List Nat)) : List Int := fm.map (fun m => (m.2.length : Int))
abbrev rkG (goal : List Bool) : List Int := goal.map (fun b => if b then 0 else -1)
def quG (goal : List Bool) (p : Nat) : List Int := ((List.range p).filter (fun p => goal.getD p false)).map Int.ofNat
theorem quG_yes (goal : List Bool) (p : Nat) (h : goal.getD p false = true) : quG goal (p + 1) = quG goal p ++ [(p : Int)] := by
  simp only [quG, List.range_succ, List.filter_append, List.map_append]
  rw [List.filter_cons, if_pos h]; rfl
theorem quG_no (goal : List Bool) (p : Nat) (h : goal.getD p false = false) : quG goal (p + 1) = quG goal p := by
  simp only [quG, List.range_succ, List.filter_append, List.map_append]
  rw [List.filter_cons, if_neg (by simp only [h]; decide)]; simp
theorem rkG_take (goal : List Bool) (p : Nat) (h : p < goal.length) : rkG (goal.take (p + 1)) = rkG (goal.take p) ++ [if goal[p] then 0 else -1] := by
  rw [rkG, List.take_add_one, List.getElem?_eq_getElem h, List.map_append]; rfl
/-- A game whose size is bounded, whose moves lead to positions. -/
structure GmOK (g : Gm) : Prop where
  n : g.1.length = g.2.length
  s : g.1.length ≤ 1000
  l : ∀ l ∈ g.2, l.length ≤ 1000
  m : ∀ l ∈ g.2, ∀ m ∈ l, m.2.length ≤ 1000 ∧ m.2.Nodup ∧ m.2 ≠ [] ∧ ∀ t ∈ m.2, 0 ≤ t ∧ t < g.1.length
theorem flatF_mem : ∀ (l : List (List Mv)) (k : Nat) (m : Nat × List Nat), m ∈ flatF k l → ∃ p x, k ≤ p ∧ p < k + l.length ∧ x ∈ l.getD (p - k) [] ∧ m = mvN p x
  | [], k, m, h => by simp [flatF] at h
  | a :: l, k, m, h => by
    rw [flatF, List.mem_append] at h
    rcases h with h | h
    · obtain ⟨x, hx, rfl⟩ := List.mem_map.1 h
      exact ⟨k, x, Nat.le_refl _, by simp, by simpa using hx, rfl⟩
    · obtain ⟨p, x, h1, h2, h3, rfl⟩ := flatF_mem l (k + 1) m h
      refine ⟨p, x, by omega, by simp; omega, ?_, rfl⟩
      obtain ⟨j, rfl⟩ : ∃ j, p = k + 1 + j := ⟨p - (k + 1), by omega⟩
      rw [show k + 1 + j - k = j + 1 by omega]
      rw [show k + 1 + j - (k + 1) = j by omega] at h3
      simpa using h3
theorem nodup_toNat {l : List Int} (h : l.Nodup) (h0 : ∀ t ∈ l, 0 ≤ t) : (l.map Int.toNat).Nodup := by
  refine List.pairwise_map.2 (h.imp_of_mem ?_)
  intro a b ha hb hab e
  have := h0 a ha; have := h0 b hb
  exact hab (by omega)
theorem GmOK.fm {g : Gm} (h : GmOK g) : FmOK g.1.length (flatF 0 g.2) := by
  have key : ∀ m ∈ flatF 0 g.2, ∃ p x, p < g.2.length ∧ (∃ l ∈ g.2, x ∈ l) ∧ m = mvN p x := by
    intro m hm
    obtain ⟨p, x, _, h2, h3, e⟩ := flatF_mem g.2 0 m hm
    have hp : p < g.2.length := by omega
    refine ⟨p, x, hp, ⟨g.2[p], List.getElem_mem hp, ?_⟩, e⟩
    simpa [List.getD, hp] using h3
  refine ⟨?_, ?_, ?_, ?_⟩
  · intro m hm
    obtain ⟨p, x, hp, _, rfl⟩ := key m hm
    rw [h.n]; exact hp
  · intro m hm t ht
    obtain ⟨p, x, hp, ⟨l, hl, hx⟩, rfl⟩ := key m hm
    obtain ⟨y, hy, rfl⟩ := List.mem_map.1 ht
    have := (h.m l hl x hx).2.2.2 y hy
    omega
  · intro m hm
    obtain ⟨p, x, hp, ⟨l, hl, hx⟩, rfl⟩ := key m hm
    have := (h.m l hl x hx).2.2.1
    simpa using this
  · intro m hm
    obtain ⟨p, x, hp, ⟨l, hl, hx⟩, rfl⟩ := key m hm
    have := h.m l hl x hx
    exact nodup_toNat this.2.1 (fun t ht => (this.2.2.2 t ht).1)
theorem flat_len : ∀ (l : List (List Mv)) (k : Nat), (∀ x ∈ l, x.length ≤ 1000) → (flatF k l).length ≤ 1000 * l.length
  | [], _, _ => by simp [flatF]
  | x :: l, k, h => by
    have := flat_len l (k + 1) (fun y hy => h y (by simp [hy]))
    have := h x (by simp)
    simp only [flatF, List.length_append, List.length_map, List.length_cons]
    omega
/-! ### What a step leaves alone -/
end Go.Proofs.YtfpehakllnkaeaaDoor
