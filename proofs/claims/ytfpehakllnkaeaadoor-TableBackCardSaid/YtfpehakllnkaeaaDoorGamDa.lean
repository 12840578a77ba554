
/- Game: appends onto the solver's rows. -/
import Derived.Test.YtfpehakllnkaeaaDoorGamC
import Derived.Deep.RegionLaw
import Derived.Deep.RegionHeldLaw
import Derived.Deep.CutRange
import Derived.Deep.CutBlock
set_option linter.unusedSimpArgs false
set_option linter.unusedVariables false
namespace Go.Proofs.YtfpehakllnkaeaaDoor
open Go.RowKit Go.IntWalk

/-- append of one number whose cell is known: what the builtin does. -/
theorem run_appJ (W : World) (ty : TypeId) (base : Nat) (v : Value) (l : List Int) (hown : OwnI W base v l) (B c : Nat) (y : Int) (hb : W.cell? ⟨B, 0, none⟩ = some (.int .i64 y)) (hlen : l.length ≤ 10000000) (hbase : base ≤ W.heap.size) :
    ∃ g cap w', (Builtin.append_ #[91, 91] ty #[v, .slice (some ⟨B, 0, none⟩) 1 c]).run Tryd.prog W = .ok (.slice (some ⟨g, 0, none⟩) (l.length + 1) cap) w' ∧
      OwnI w' base (.slice (some ⟨g, 0, none⟩) (l.length + 1) cap) (l ++ [y]) ∧ W.grownBy w' v.ownBlock ∧ ((Value.slice (some ⟨g, 0, none⟩) (l.length + 1) cap).ownBlock = v.ownBlock ∨ (Value.slice (some ⟨g, 0, none⟩) (l.length + 1) cap).ownBlock = some W.heap.size) := by
  obtain ⟨i0, hi, hz0, hz1, hz2⟩ := info_parts infoInt
  obtain ⟨g, cap, w', h1, h2, h3, h4, _⟩ := Go.run_append_lies (P := Tryd.prog) W 91 ty base 3 i0 _ 1 8 Tryd.underlying91 hi hz0 hz1 hz2 rfl (by omega) v l.length _ hown ⟨B, 0, none⟩ 1 c [.int .i64 y] rfl
    (fun j u hu => by
      match j, hu with
      | 0, hu => simp only [List.getElem?_cons_zero, Option.some.injEq] at hu; subst hu; exact hb
      | j + 1, hu => simp at hu) (by simp [Value.oneCell']) (by omega) (by unfold maxLen; omega) (by omega) hbase _ rfl
  refine ⟨g, cap, w', h1, ?_, h3, ?_⟩
  · unfold OwnI
    rw [List.length_append, List.map_append]
    exact h2
  · rcases h4 with h4 | h4
    · exact .inl h4.symm
    · exact .inr (by rw [h4]; rfl)
section
variable {ops : Array Oper} {rest : List Oper} {o : Oper} {a : Act} {Q : Exit → Act → World → Prop}
theorem wp_appJ (w : World) (hgd : o.guard = none) (s x : Operand) (ho : o.op = .call { callee := .builtin .append, args := #[s, x], argTypes := #[91, 91] })
    (base : Nat) (v : Value) (l : List Int) (n : Nat) (hn : l.length = n) (hs : a.eval s = v) (hown : OwnI w base v l) (B c : Nat) (y : Int) (hx : a.eval x = .slice (some ⟨B, 0, none⟩) 1 c) (hb : w.cell? ⟨B, 0, none⟩ = some (.int .i64 y)) (hlen : l.length ≤ 10000000) (hbase : base ≤ w.heap.size)
    (h : ∀ g cap w', OwnI w' base (.slice (some ⟨g, 0, none⟩) (n + 1) cap) (l ++ [y]) → w.grownBy w' v.ownBlock → ((Value.slice (some ⟨g, 0, none⟩) (n + 1) cap).ownBlock = v.ownBlock ∨ (Value.slice (some ⟨g, 0, none⟩) (n + 1) cap).ownBlock = some w.heap.size) → wpList Tryd.prog ops Q rest (a.put o.dst (.slice (some ⟨g, 0, none⟩) (n + 1) cap)) w') : wpList Tryd.prog ops Q (o :: rest) a w := by
  subst hn
  refine wp_appI w hgd s x ho base v l hs hown ⟨B, 0, none⟩ c [y] hx ?_ (by simp; omega) hbase ?_
  · intro j u hu
    match j, hu with
    | 0, hu => simp at hu; subst hu; exact hb
    | j + 1, hu => simp at hu
  · intro v' w' h1 h2 h3
    obtain ⟨A, cap, rfl, hA⟩ := h1.form
    obtain ⟨g, rfl, _⟩ := hA (by simp)
    simp only [List.length_append, List.length_cons, List.length_nil] at h1 h3 ⊢
    exact h g cap w' h1 h2 h3
end
theorem step_appJ {ops : Array Oper} {o : Oper} {a : Act} {K : Act → World → Prop} {Q : Exit → Act → World → Prop} {E : Prop} (w : World) (hgd : o.guard = none) (s x : Operand)
    (ho : o.op = .call { callee := .builtin .append, args := #[s, x], argTypes := #[91, 91] })
    (base : Nat) (v : Value) (l : List Int) (n : Nat) (hn : l.length = n) (hs : a.eval s = v) (hown : OwnI w base v l) (B c : Nat) (y : Int) (hx : a.eval x = .slice (some ⟨B, 0, none⟩) 1 c) (hb : w.cell? ⟨B, 0, none⟩ = some (.int .i64 y)) (hlen : l.length ≤ 10000000) (hbase : base ≤ w.heap.size)
    (h : ∀ g cap w', OwnI w' base (.slice (some ⟨g, 0, none⟩) (n + 1) cap) (l ++ [y]) → w.grownBy w' v.ownBlock → ((Value.slice (some ⟨g, 0, none⟩) (n + 1) cap).ownBlock = v.ownBlock ∨ (Value.slice (some ⟨g, 0, none⟩) (n + 1) cap).ownBlock = some w.heap.size) → K (a.put o.dst (.slice (some ⟨g, 0, none⟩) (n + 1) cap)) w') :
    if Region.wanted o (yielded ops a.tmps) = true then Oper.wp Tryd.prog o a w K Q else E := by
  subst hn
  obtain ⟨i0, hi, hz0, hz1, hz2⟩ := info_parts infoInt
  refine step_append_lies w hgd s x 91 ho base 3 i0 _ 1 8 Tryd.underlying91 hi hz0 hz1 hz2 rfl (by omega) v l.length _ hs hown ⟨B, 0, none⟩ 1 c [.int .i64 y] hx rfl ?_ (by simp [Value.oneCell']) (by omega) (by unfold maxLen; omega) (by omega) hbase _ rfl ?_
  · intro j u hu
    match j, hu with
    | 0, hu => simp at hu; subst hu; exact hb
    | j + 1, hu => simp at hu
  · intro g cap w' h1 h2 h3 _
    refine h g cap w' ?_ h2 (h3.elim (fun e => .inl e.symm) (fun e => .inr (by rw [e]; rfl)))
    unfold OwnI
    rw [List.length_append, List.map_append]
    exact h1
theorem fam_nil (w : World) (base n : Nat) : Fam w base (.slice none 0 0 :: .slice none 0 0 :: .slice none 0 0 :: .slice none 0 0 :: List.replicate n (.slice none 0 0)) ([] :: [] :: [] :: [] :: List.replicate n []) := by
  have e1 : ∀ (n : Nat), (.slice none 0 0 :: .slice none 0 0 :: .slice none 0 0 :: .slice none 0 0 :: List.replicate n (.slice none 0 0) : List Value) = List.replicate (n + 4) (.slice none 0 0) := fun n => rfl
  have e2 : ∀ (n : Nat), ([] :: [] :: [] :: [] :: List.replicate n [] : List (List Int)) = List.replicate (n + 4) [] := fun n => rfl
  rw [e1, e2]
  refine ⟨by simp, fun i hv hx => ?_, fun i j hi hj _ g hg => ?_⟩
  · simp only [List.getElem_replicate]; exact OwnI.nil _ _
  · simp only [List.getElem_replicate] at hg; simp [Value.ownBlock] at hg
theorem made_nil (n : Nat) : madeCells (Value.slice none 0 0).cells (n * 1) = (List.replicate n (Value.slice none 0 0)).toArray := by
  have e : (Value.slice none 0 0).cells = #[.slice none 0 0] := rfl
  rw [e, Nat.mul_one]
  apply Array.ext
  · rw [size_madeCells]; simp
  · intro i h1 h2
    simp [madeCells, Nat.mod_one]
theorem infoSl : (Tryd.prog.info? 91).map (fun i => (i.zero, i.size, i.bytes)) = some (some (.slice none 0 0), 1, 24) := by kernel_rfl
end Go.Proofs.YtfpehakllnkaeaaDoor
