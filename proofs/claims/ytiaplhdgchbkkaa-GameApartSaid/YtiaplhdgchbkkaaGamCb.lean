
/- Game: appends for clone. -/
import Derived.Test.YtiaplhdgchbkkaaGamCa
import Derived.Test.YtiaplhdgchbkkaaReg
import Derived.Test.YtiaplhdgchbkkaaGamDb
set_option linter.unusedSimpArgs false
set_option linter.unusedVariables false
namespace Go.Proofs.Ytiaplhdgchbkkaa
open Go.RowKit Go.IntWalk Go.Shelf

theorem infoMv : (Try.prog.info? 41).map (fun i => (i.zero, i.size, i.bytes)) = some (some (.agg #[.int .i64 0, .slice none 0 0]), 2, 32) := by kernel_rfl
theorem infoBl : (Try.prog.info? 4).map (fun i => (i.zero, i.size, i.bytes)) = some (some (.bool false), 1, 1) := by kernel_rfl
theorem infoLs : (Try.prog.info? 38).map (fun i => (i.zero, i.size, i.bytes)) = some (some (.slice none 0 0), 1, 24) := by kernel_rfl
/-- append of a slice of ints, not empty, that comes up in a drawn region. -/
theorem appIntsS {F : Fence} {n0 : Nat} {o : Oper} {a : Act} {K : Act → World → Prop} {Q : Exit → Act → World → Prop} (hF : ∀ f, F.fn f) (w : World) (s x : Operand)
    (ho : o.op = .call { callee := .builtin .append, args := #[s, x], argTypes := #[29, 29] })
    (base : Nat) (v : Value) (l : List Int) (hs : a.eval s = v) (hown : OwnI w base v l) (ad : Addr) (c : Nat) (ys : List Int) (hx : a.eval x = .slice (some ad) ys.length c)
    (hcell : ∀ (j : Nat) (u : Value), (ys.map (Value.int .i64))[j]? = some u → w.cell? (ad.add j) = some u) (hy : 0 < ys.length) (hlen : l.length + ys.length ≤ 10000000) (hbase : base ≤ w.heap.size)
    (h : ∀ v' w', OwnI w' base v' (l ++ ys) → w.grownBy w' v.ownBlock → K (a.put o.dst v') w') : Oper.wpIn F n0 Try.prog o a w K Q := by
  obtain ⟨i0, hi, hz0, hz1, hz2⟩ := info_parts infoInt
  obtain ⟨g, cap, w', hr, h2, h3, _⟩ := run_append_lies (P := Try.prog) w 29 o.type base 3 i0 _ 1 8 Try.underlying29 hi hz0 hz1 hz2 rfl (by omega) v l.length _ hown ad ys.length c (ys.map (Value.int .i64)) (by simp) hcell (by simp [Value.oneCell']) hy (by unfold maxLen; omega) (by omega) hbase _ rfl
  refine uponIn_of_value (v := .slice (some ⟨g, 0, none⟩) (l.length + ys.length) cap) (w' := w') hF (by rw [ho]; intro c hc; cases hc) ?_ (h _ w' ?_ h3)
  · unfold execOp
    simp only [ho, resolve, invoke, builtin, Sem.run_bind, Sem.run_pure, Result.andThen_ok, List.map_toArray, List.map_cons, List.map_nil, hs, hx, hr]
  · unfold OwnI
    rw [List.length_append, List.map_append]
    exact h2
/-- append of one move. -/
theorem appMvS {F : Fence} {n0 : Nat} {o : Oper} {a : Act} {K : Act → World → Prop} {Q : Exit → Act → World → Prop} (hF : ∀ f, F.fn f) (w : World) (s x : Operand)
    (ho : o.op = .call { callee := .builtin .append, args := #[s, x], argTypes := #[38, 38] })
    (base : Nat) (v : Value) (l : List (Int × Value)) (hs : a.eval s = v) (hown : OwnM w base v l) (B c : Nat) (y : Int × Value) (hy1 : y.2.oneCell' = true) (hx : a.eval x = .slice (some ⟨B, 0, none⟩) 1 c) (hb : Blk w B 41 #[.int .i64 y.1, y.2]) (hlen : l.length ≤ 1000000) (hbase : base ≤ w.heap.size)
    (h : ∀ v' w', OwnM w' base v' (l ++ [y]) → w.grownBy w' v.ownBlock → K (a.put o.dst v') w') : Oper.wpIn F n0 Try.prog o a w K Q := by
  obtain ⟨i0, hi, hz0, hz1, hz2⟩ := info_parts infoMv
  obtain ⟨g, cap, w', hr, h2, h3, _⟩ := run_append_lies (P := Try.prog) w 38 o.type base 41 i0 _ 2 32 Try.underlying38 hi hz0 hz1 hz2 rfl (by omega) v l.length _ hown ⟨B, 0, none⟩ 1 c [.int .i64 y.1, y.2] (by simp) (fun j u hu => World.news_of_block (show w.heap[B]? = _ from hb) j u (by simpa using hu)) (by simpa [Value.oneCell'] using hy1) (by omega) (by unfold maxLen; omega) (by omega) hbase _ rfl
  refine uponIn_of_value (v := .slice (some ⟨g, 0, none⟩) (l.length + 1) cap) (w' := w') hF (by rw [ho]; intro c hc; cases hc) ?_ (h _ w' ?_ h3)
  · unfold execOp
    simp only [ho, resolve, invoke, builtin, Sem.run_bind, Sem.run_pure, Result.andThen_ok, List.map_toArray, List.map_cons, List.map_nil, hs, hx, hr]
  · unfold OwnM
    rw [List.length_append, mcs_app]
    exact h2
section
variable {ops : Array Oper} {rest : List Oper} {o : Oper} {a : Act} {Q : Exit → Act → World → Prop}
/-- append of one list of moves. -/
theorem wp_appLs (w : World) (hgd : o.guard = none) (s x : Operand) (ho : o.op = .call { callee := .builtin .append, args := #[s, x], argTypes := #[23, 23] })
    (base : Nat) (v : Value) (l : List Value) (hs : a.eval s = v) (hown : OwnL w base v l) (B c : Nat) (y : Value) (hy1 : y.oneCell' = true) (hx : a.eval x = .slice (some ⟨B, 0, none⟩) 1 c) (hb : Blk w B 38 #[y]) (hlen : l.length ≤ 1000000) (hbase : base ≤ w.heap.size)
    (h : ∀ v' w', OwnL w' base v' (l ++ [y]) → w.grownBy w' v.ownBlock → wpList Try.prog ops Q rest (a.put o.dst v') w') : wpList Try.prog ops Q (o :: rest) a w := by
  obtain ⟨i0, hi, hz0, hz1, hz2⟩ := info_parts infoLs
  refine wpList_append_own_at w hgd s x 23 ho base 38 i0 _ 1 24 Try.underlying23 hi hz0 hz1 hz2 rfl (by omega) v l.length _ hs hown ⟨B, 0, none⟩ 1 c [y] hx (by simp) (fun j u hu => World.news_of_block (show w.heap[B]? = _ from hb) j u (by simpa using hu)) (by simpa using hy1) (by unfold maxLen; omega) (by omega) hbase ?_
  intro v' w' h1 h2 _ _
  refine h v' w' ?_ h2
  unfold OwnL
  rw [List.length_append]
  exact h1
/-- append of bools, not empty. -/
theorem wp_appBs (w : World) (hgd : o.guard = none) (s x : Operand) (ho : o.op = .call { callee := .builtin .append, args := #[s, x], argTypes := #[22, 22] })
    (base : Nat) (v : Value) (l : List Bool) (hs : a.eval s = v) (hown : OwnB w base v l) (ad : Addr) (c : Nat) (ys : List Bool) (hx : a.eval x = .slice (some ad) ys.length c)
    (hcell : ∀ (j : Nat) (u : Value), (ys.map Value.bool)[j]? = some u → w.cell? (ad.add j) = some u) (hlen : l.length + ys.length ≤ 1000000) (hbase : base ≤ w.heap.size)
    (h : ∀ v' w', OwnB w' base v' (l ++ ys) → w.grownBy w' v.ownBlock → wpList Try.prog ops Q rest (a.put o.dst v') w') : wpList Try.prog ops Q (o :: rest) a w := by
  obtain ⟨i0, hi, hz0, hz1, hz2⟩ := info_parts infoBl
  refine wpList_append_own_at w hgd s x 22 ho base 4 i0 _ 1 1 Try.underlying22 hi hz0 hz1 hz2 rfl (by omega) v l.length _ hs hown ad ys.length c (ys.map Value.bool) hx (by simp) hcell (by intro u hu; obtain ⟨b, _, rfl⟩ := List.mem_map.1 hu; rfl) (by unfold maxLen; omega) (by omega) hbase ?_
  intro v' w' h1 h2 _ _
  refine h v' w' ?_ h2
  unfold OwnB
  rw [List.length_append, List.map_append]
  exact h1
end
theorem OwnI.one {w : World} {base : Nat} {v : Value} {l : List Int} (h : OwnI w base v l) : v.oneCell' = true := by
  obtain ⟨A, c, rfl, _⟩ := h.form; rfl
theorem own_one {w : World} {base : Nat} {e : TypeId} {size n : Nat} {v : Value} {xs : List Value} (h : w.ownsRow base e size v n xs) : v.oneCell' = true := by
  rcases h.2 with ⟨rfl, _⟩ | ⟨g, cap, cur, rfl, _⟩ <;> rfl
theorem SlR.bool_cells {w : World} {B : Nat} {A : Option Addr} {l : List Bool} (h : SlR w B A l) (hl : 0 < l.length) : ∃ b off, A = some ⟨b, off, none⟩ ∧ b < B ∧ ∀ (j : Nat) (u : Value), (l.map Value.bool)[j]? = some u → w.cell? ((⟨b, off, none⟩ : Addr).add j) = some u := by
  obtain ⟨b, off, rfl, hb, _⟩ := h.bool hl
  refine ⟨b, off, rfl, hb, fun j u hu => ?_⟩
  rw [List.getElem?_map] at hu
  cases hj : l[j]? with
  | none => rw [hj] at hu; cases hu
  | some x =>
    rw [hj] at hu
    simp only [Option.map_some, Option.some.injEq] at hu
    subst hu
    obtain ⟨hjl, rfl⟩ := List.getElem?_eq_some_iff.1 hj
    have := h.bool_at hjl
    unfold Addr.add
    by_cases h0 : j = 0
    · subst h0; simpa using this
    · simpa [h0] using this
/-- One list more. -/
theorem Nest.snoc {w : World} {vs : List Value} {ls : List (List Mv)} (h : Nest w vs ls) {v : Value} {xs : List (Int × Value)} {l : List Mv} {s : Nat} (ho : OwnM w s v xs) (hr : MvR w xs l) (hlow : ∀ i (hi : i < vs.length) g, vs[i].ownBlock = some g → g < s) : Nest w (vs ++ [v]) (ls ++ [l]) := by
  have hl := h.len
  have hvs : ∀ g, v.ownBlock = some g → s ≤ g := fun g hg => (own_blk ho g hg).1
  refine ⟨by simp [hl], fun k h1 h2 => ?_, fun i j hi hj hij g hg hg2 => ?_⟩
  · by_cases hk : k < vs.length
    · rw [List.getElem_append_left hk, List.getElem_append_left (by omega)]
      exact h.at_ k hk (by omega)
    · have e : k = vs.length := by simp at h1; omega
      subst e
      simp [hl]
      exact ⟨xs, own_base ho (Nat.zero_le _), hr⟩
  · by_cases h1 : i < vs.length <;> by_cases h2 : j < vs.length
    · rw [List.getElem_append_left h1] at hg
      rw [List.getElem_append_left h2] at hg2
      exact h.sep i j h1 h2 hij g hg hg2
    · have e : j = vs.length := by simp at hj; omega
      subst e
      rw [List.getElem_append_left h1] at hg
      simp at hg2
      have := hlow i h1 g hg; have := hvs g hg2; omega
    · have e : i = vs.length := by simp at hi; omega
      subst e
      rw [List.getElem_append_left h2] at hg2
      simp at hg
      have := hlow j h2 g hg2; have := hvs g hg; omega
    · simp at hi hj; omega
theorem Nest.low {w : World} {vs : List Value} {ls : List (List Mv)} (h : Nest w vs ls) : ∀ i (hi : i < vs.length) g, vs[i].ownBlock = some g → g < w.heap.size := fun i hi g hg => by
  obtain ⟨xs, ho, _⟩ := h.at_ i hi (by rw [← h.len]; exact hi)
  obtain ⟨_, cs, hb⟩ := own_blk ho g hg
  exact hb.lt
theorem Nest.nil (w : World) : Nest w [] [] := ⟨rfl, fun k h => by simp at h, fun i j hi => by simp at hi⟩
end Go.Proofs.Ytiaplhdgchbkkaa
