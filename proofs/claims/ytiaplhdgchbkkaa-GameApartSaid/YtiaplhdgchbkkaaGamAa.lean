
/- Game: a clone to which positions are added: words for GameApart. -/
import Derived.Test.YtiaplhdgchbkkaaGamCe
set_option linter.unusedSimpArgs false
set_option linter.unusedVariables false
namespace Go.Proofs.Ytiaplhdgchbkkaa
open Go.RowKit Go.IntWalk Go.Shelf

/-- Both games, the second one up to position i. -/
def bothK (g h : Gm) (i : Nat) : Gm := (g.1 ++ h.1.take i, g.2 ++ (h.2.take i).map (fun l => l.map (shiftM g.1.length)))
theorem bothK_zero (g h : Gm) : bothK g h 0 = g := by simp [bothK]
theorem bothK_end {g h : Gm} (hn : h.1.length = h.2.length) : bothK g h h.1.length = bothG g h := by
  unfold bothK bothG
  rw [List.take_length, hn, List.take_length]
theorem bothK_succ {g h : Gm} {i : Nat} (h1 : i < h.1.length) (h2 : i < h.2.length) : bothK g h (i + 1) = ((bothK g h i).1 ++ [h.1[i]], (bothK g h i).2 ++ [h.2[i].map (shiftM g.1.length)]) := by
  unfold bothK
  simp only [List.take_add_one, List.getElem?_eq_getElem h1, List.getElem?_eq_getElem h2, Option.toList_some, List.map_append, List.map_cons, List.map_nil, List.append_assoc]
/-- A position's goal bit, behind an append onto the row of goals. -/
theorem OGx.push0 {w w' : World} {base b : Nat} {G : Gm} {vG vM : Value} {vs : List Value} (h : OGx w base b G vG vM vs) (hg : w.grownBy w' vG.ownBlock) {vG' : Value} {y : Bool} (ho : OwnB w' base vG' (G.1 ++ [y])) :
    OGx (w'.setCell ⟨b, 0, none⟩ vG') base b (G.1 ++ [y], G.2) vG' vM vs := by
  have k1 : KT [3, 41, 38, 25] w w' := KT.of_grown hg (fun q e => by obtain ⟨_, cs, hb⟩ := own_blk h.goal q e; exact ⟨_, cs, hb, by decide⟩)
  have b1 := k1 _ _ _ (by decide) h.blk
  have k2 : KT [3, 4, 41, 38] w' (w'.setCell ⟨b, 0, none⟩ vG') := KT.of_set b1 (by decide) _
  exact ⟨by simpa using b1.set_ 0 vG', h.lo, own_kt ho k2 (by decide), own_kt (own_kt h.mvs k1 (by decide)) k2 (by decide), (h.nest.kt k1 (by decide) (by decide)).kt k2 (by decide) (by decide), h.low⟩
/-- A position's moves, behind an append onto the row of lists. -/
theorem OGx.push1 {w w' : World} {base b s : Nat} {G : Gm} {vG vM : Value} {vs : List Value} (h : OGx w base b G vG vM vs) (hg : w.grownBy w' vM.ownBlock) {vM' v : Value} {xs : List (Int × Value)} {l : List Mv} (ho : OwnL w' base vM' (vs ++ [v])) (hv : OwnM w s v xs) (hr : MvR w xs l)
    (hlow : ∀ i (hi : i < vs.length) q, vs[i].ownBlock = some q → q < s) (hs : base ≤ s) :
    OGx (w'.setCell ⟨b, 1, none⟩ vM') base b (G.1, G.2 ++ [l]) vG vM' (vs ++ [v]) := by
  have k1 : KT [3, 41, 4, 25] w w' := KT.of_grown hg (fun q e => by obtain ⟨_, cs, hb⟩ := own_blk h.mvs q e; exact ⟨_, cs, hb, by decide⟩)
  have b1 := k1 _ _ _ (by decide) h.blk
  have k2 : KT [3, 4, 41, 38] w' (w'.setCell ⟨b, 1, none⟩ vM') := KT.of_set b1 (by decide) _
  refine ⟨by simpa using b1.set_ 1 vM', h.lo, own_kt (own_kt h.goal k1 (by decide)) k2 (by decide), own_kt ho k2 (by decide), ((h.nest.snoc hv hr hlow).kt k1 (by decide) (by decide)).kt k2 (by decide) (by decide), fun j hj q hq => ?_⟩
  by_cases h1 : j < vs.length
  · rw [List.getElem_append_left h1] at hq; exact h.low j h1 q hq
  · have e : j = vs.length := by simp at hj; omega
    subst e
    simp at hq
    have := (own_blk hv q hq).1; omega
section
variable {ops : Array Oper} {rest : List Oper} {o : Oper} {a : Act} {Q : Exit → Act → World → Prop}
theorem wp_appRowX (w : World) (hgd : o.guard = none) (s x : Operand) (ho : o.op = .call { callee := .builtin .append, args := #[s, x], argTypes := #[35, 35] })
    (base : Nat) (v : Value) (l : List Row) (n : Nat) (hn : l.length = n) (hs : a.eval s = v) (hown : OwnR w base v l) (B c : Nat) (y : Row) (hx : a.eval x = .slice (some ⟨B, 0, none⟩) 1 c) (hb : Blk w B 43 #[.int .i64 y.1, .int .i64 y.2.1, .int .i64 y.2.2]) (hlen : l.length ≤ 1000000) (hbase : base ≤ w.heap.size)
    (h : ∀ A c w', OwnR w' base (.slice A (n + 1) c) (l ++ [y]) → w.grownBy w' v.ownBlock → ((Value.slice A (n + 1) c).ownBlock = v.ownBlock ∨ (Value.slice A (n + 1) c).ownBlock = some w.heap.size) → wpList Try.prog ops Q rest (a.put o.dst (.slice A (n + 1) c)) w') : wpList Try.prog ops Q (o :: rest) a w := by
  subst hn
  obtain ⟨i0, hi, hz0, hz1, hz2⟩ := info_parts infoRow
  refine wpList_append_own_at w hgd s x 35 ho base 43 i0 _ 3 24 Try.underlying35 hi hz0 hz1 hz2 rfl (by omega) v l.length _ hs hown ⟨B, 0, none⟩ 1 c [.int .i64 y.1, .int .i64 y.2.1, .int .i64 y.2.2] hx (by simp) (fun j u hu => World.news_of_block (show w.heap[B]? = _ from hb) j u (by simpa using hu)) (by simp [Value.oneCell']) (by unfold maxLen; omega) (by omega) hbase ?_
  intro v' w' h1 h2 _ h4
  obtain ⟨A, c', rfl⟩ := own_form h1
  refine h A c' w' ?_ h2 h4
  unfold OwnR
  rw [List.length_append, rcs_app]
  exact h1
/-- append of rows of the call's own, in a plain region. -/
theorem wp_appRR (w : World) (hgd : o.guard = none) (s x : Operand) (ho : o.op = .call { callee := .builtin .append, args := #[s, x], argTypes := #[35, 35] })
    (base : Nat) (v : Value) (l : List Row) (n : Nat) (hs : a.eval s = v) (hown : OwnR w base v l) (b2 : Nat) (u : Value) (ys : List Row) (hx : a.eval x = u) (hu : OwnR w b2 u ys) (hn : l.length + ys.length = n) (hlen : l.length + ys.length ≤ 1000000) (hbase : base ≤ w.heap.size)
    (h : ∀ A c w', OwnR w' base (.slice A n c) (l ++ ys) → w.grownBy w' v.ownBlock → wpList Try.prog ops Q rest (a.put o.dst (.slice A n c)) w') : wpList Try.prog ops Q (o :: rest) a w := by
  subst hn
  obtain ⟨i0, hi, hz0, hz1, hz2⟩ := info_parts infoRow
  refine wpList_plain hgd fun K hK => ?_
  obtain ⟨v', w', hr, h2, h3⟩ := run_appOwn (size := 3) (bytes := 24) Try.underlying35 hi hz0 hz1 hz2 rfl (by omega) w o.type base v l.length _ hown b2 u ys.length _ hu (by intro u hu; obtain ⟨b, _, hb⟩ := List.mem_flatMap.1 hu; simp at hb; rcases hb with rfl | rfl | rfl <;> rfl) (by unfold maxLen; omega) (by omega) hbase
  obtain ⟨A, c, rfl⟩ := own_form h2
  unfold Oper.wp execOp
  simp only [ho, resolve, invoke, builtin, Sem.run_bind, Sem.run_pure, Result.andThen_ok, List.map_toArray, List.map_cons, List.map_nil, hs, hx, hr]
  refine hK _ _ (h A c w' ?_ h3)
  unfold OwnR
  rw [List.length_append, rcs_app]
  exact h2
end
/-- Rows of the call's own: kept where another block grows. -/
theorem OwnR.apart {w w' : World} {base : Nat} {v : Value} {l : List Row} {row : Option Nat} (h : OwnR w base v l) (hg : w.grownBy w' row) (hne : ∀ q, v.ownBlock = some q → row ≠ some q) : OwnR w' base v l :=
  own_kept h (fun q cs e hb => hb.grown hg (fun e2 => hne q e e2.symm))
theorem shiftM_i64 {n : Nat} (hn : n ≤ 1000) {t : Int} (h0 : 0 ≤ t) (h1 : t ≤ 1000) : IntKind.i64.wrap (t + n) = t + n ∧ I64 (t + n) := ⟨IntWalk.i64_in _ (by omega), ⟨by omega, by omega⟩⟩
theorem solve_pos {g : Gm} : ∀ x ∈ solveL g, 0 ≤ x.1 ∧ x.1 < g.1.length := by
  intro x hx
  unfold solveL rowsK at hx
  rw [List.mem_filterMap] at hx
  obtain ⟨p, hp, hx⟩ := hx
  have hp : p < g.1.length := by simpa using hp
  unfold rowF at hx
  split at hx
  · simp at hx; subst hx; simp; omega
  · split at hx
    · simp at hx; subst hx; simp; omega
    · cases hx
theorem solve_len (g : Gm) : (solveL g).length ≤ g.1.length := by
  unfold solveL rowsK
  have := List.length_filterMap_le (fun p => rowF g (rankL g) p) (List.range g.1.length)
  simpa using this
theorem shift_rows {g : Gm} {n : Nat} (hn : n ≤ 1000) (hg : GmOK g) (ha : ActI g) : ∀ x ∈ (solveL g).map (shiftR n), RowI x := by
  intro x hx
  obtain ⟨y, hy, rfl⟩ := List.mem_map.1 hx
  have h1 := solve_rows hg ha y hy
  have h2 := solve_pos y hy
  have h3 := hg.s
  exact ⟨⟨by simp [shiftR]; omega, by simp [shiftR]; omega⟩, h1.2.1, h1.2.2⟩
theorem moved_take {l : List Mv} {n k : Nat} (h : k < l.length) : (l.take (k + 1)).map (shiftM n) = (l.take k).map (shiftM n) ++ [(l[k].1, l[k].2.map (fun t => t + (n : Int)))] := by
  rw [List.take_add_one, List.getElem?_eq_getElem h, Option.toList_some, List.map_append]
  rfl
theorem tos_take {l : List Int} {n k : Nat} (h : k < l.length) : (l.take (k + 1)).map (fun t => t + (n : Int)) = (l.take k).map (fun t => t + (n : Int)) ++ [l[k] + (n : Int)] := by
  rw [List.take_add_one, List.getElem?_eq_getElem h, Option.toList_some, List.map_append]
  rfl
theorem rows_take {l : List Row} {n k : Nat} (h : k < l.length) : (l.take (k + 1)).map (shiftR n) = (l.take k).map (shiftR n) ++ [(l[k].1 + (n : Int), l[k].2)] := by
  rw [List.take_add_one, List.getElem?_eq_getElem h, Option.toList_some, List.map_append]
  rfl
end Go.Proofs.Ytiaplhdgchbkkaa
