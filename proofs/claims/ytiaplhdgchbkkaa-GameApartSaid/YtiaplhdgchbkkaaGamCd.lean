
/- Game: append of a whole row of the call's own, empty or not; clone of any game: words for GameApart. -/
import Derived.Test.YtiaplhdgchbkkaaGamMc
import Derived.Test.YtiaplhdgchbkkaaGamY
import Derived.Test.YtiaplhdgchbkkaaRegG
set_option linter.unusedSimpArgs false
set_option linter.unusedVariables false
namespace Go.Proofs.Ytiaplhdgchbkkaa
open Go.RowKit Go.IntWalk Go.Shelf

/-- append of nothing. -/
theorem run_append0 {t e : TypeId} {i : TypeInfo} (ht : Try.prog.underlying t = some (.slice e)) (hne : ∀ k, TypeDesc.slice e ≠ .int k) (hi : Try.prog.info? e = some i) (w : World) (ty : TypeId) (A B : Option Addr) (n c d : Nat) (hnc : n ≤ c) :
    (Builtin.append_ #[t, t] ty #[.slice A n c, .slice B 0 d]).run Try.prog w = .ok (.slice A n c) w := by
  cases A <;> cases B <;> simp [Builtin.append_, run_underlying ht, sizeOf, typeInfo, hi, storeCells, loadCells, Builtin.lenOf, Builtin.firstCells, go_sem, hnc]
/-- append of a whole row of the call's own. -/
theorem run_appOwn {t e : TypeId} {i : TypeInfo} {z : Value} {size bytes : Nat} (ht : Try.prog.underlying t = some (.slice e)) (hi : Try.prog.info? e = some i) (hz : i.zero = some z) (hs : i.size = size) (hb : i.bytes = bytes) (hzs : z.cells.size = size) (hsz : 0 < size) (w : World) (ty : TypeId)
    (base : Nat) (v : Value) (n : Nat) (xs : List Value) (hown : w.ownsRow base e size v n xs) (b2 : Nat) (u : Value) (m : Nat) (ys : List Value) (hu : w.ownsRow b2 e size u m ys) (h1 : ∀ x ∈ ys, x.oneCell' = true) (h63 : n + m ≤ maxLen) (hby : (n + m) * bytes ≤ 140737488355328) (hbase : base ≤ w.heap.size) :
    ∃ v' w', (Builtin.append_ #[t, t] ty #[v, u]).run Try.prog w = .ok v' w' ∧ w'.ownsRow base e size v' (n + m) (xs ++ ys) ∧ w.grownBy w' v.ownBlock := by
  rcases hu.2 with ⟨rfl, rfl⟩ | ⟨g, cap, cur, rfl, hg, hh, hc, hm, hsz2, ht2⟩
  · have hy : ys = [] := List.eq_nil_of_length_eq_zero (by simpa using hu.1)
    subst hy
    obtain ⟨A, c, rfl, hnc⟩ : ∃ A c, v = .slice A n c ∧ n ≤ c := by
      rcases hown.2 with ⟨rfl, rfl⟩ | ⟨g, cap, cur, rfl, _, _, hc, _⟩
      · exact ⟨none, 0, rfl, Nat.le_refl _⟩
      · exact ⟨_, cap, rfl, hc⟩
    refine ⟨_, w, run_append0 ht (by intro k h; cases h) hi w ty A none n c 0 hnc, by simpa using hown, World.grownBy.refl _ _⟩
  · have hb2 : Blk w g e cur := hh
    obtain ⟨v', w', h1', h2', h3', _⟩ := run_append_own_at (P := Try.prog) w base t ty e i z size bytes ht hi hz hs hb hzs hsz v n xs hown ⟨g, 0, none⟩ m cap ys hu.1 (fun j x hx => by
      have : w.cell? ((⟨g, 0, none⟩ : Addr).add j) = cur[j]? := by
        unfold Addr.add
        by_cases h0 : j = 0
        · subst h0; simp [hb2.cell]
        · simp [h0, hb2.cell]
      rw [this]
      have e1 : cur[j]? = cur.toList[j]? := by simp
      have hj : j < m * size := by have := (List.getElem?_eq_some_iff.1 hx).1; rw [hu.1] at this; exact this
      rw [e1, ← List.getElem?_take_of_lt hj, ht2, hx]) h1 h63 hby hbase
    exact ⟨v', w', h1', h2', h3'⟩
/-- A call that hands a value back, in a drawn region. -/
theorem callV {n : Nat} {P : Program} {o : Oper} {a : Act} {w : World} {K : Act → World → Prop} {Q : Exit → Act → World → Prop} {f : FuncId} {args : Array Value} {R : Value → World → Prop} (hd : ∀ c, o.op ≠ .defer c)
    (hr : (execOp a.eval o).run P w = .ok (.enter f args) w) (hc : Calls P f args w fun e w' => ∃ v, e = .returned v ∧ R v w') (h : ∀ v w', R v w' → K (a.put o.dst v) w') : o.wpIn Fence.wide n P a w K Q := by
  unfold Oper.wpIn
  rw [Oper.semAt_plain _ _ _ hd, hr]
  exact ⟨fun f _ => trivial, fun h => by simp [Fence.wide] at h, callsIn_wide.2 (hc.mono fun e w' he => by obtain ⟨v, rfl, hR⟩ := he; exact h v w' hR)⟩
theorem own_form {w : World} {base : Nat} {e : TypeId} {size n : Nat} {v : Value} {xs : List Value} (h : w.ownsRow base e size v n xs) : ∃ A c, v = .slice A n c := by
  rcases h.2 with ⟨rfl, rfl⟩ | ⟨g, cap, cur, rfl, _⟩
  · exact ⟨none, 0, rfl⟩
  · exact ⟨_, cap, rfl⟩
/-- .. of ints, that comes up in a drawn region. -/
theorem appIS {F : Fence} {n0 : Nat} {o : Oper} {a : Act} {K : Act → World → Prop} {Q : Exit → Act → World → Prop} (hF : ∀ f, F.fn f) (w : World) (s x : Operand)
    (ho : o.op = .call { callee := .builtin .append, args := #[s, x], argTypes := #[29, 29] })
    (base : Nat) (v : Value) (l : List Int) (hs : a.eval s = v) (hown : OwnI w base v l) (b2 : Nat) (u : Value) (ys : List Int) (hx : a.eval x = u) (hu : OwnI w b2 u ys) (hlen : l.length + ys.length ≤ 10000000) (hbase : base ≤ w.heap.size)
    (h : ∀ A c w', OwnI w' base (.slice A (l.length + ys.length) c) (l ++ ys) → w.grownBy w' v.ownBlock → K (a.put o.dst (.slice A (l.length + ys.length) c)) w') : Oper.wpIn F n0 Try.prog o a w K Q := by
  obtain ⟨i0, hi, hz0, hz1, hz2⟩ := info_parts infoInt
  obtain ⟨v', w', hr, h2, h3⟩ := run_appOwn (size := 1) (bytes := 8) Try.underlying29 hi hz0 hz1 hz2 rfl (by omega) w o.type base v l.length _ hown b2 u ys.length _ hu (by intro u hu; obtain ⟨b, _, rfl⟩ := List.mem_map.1 hu; rfl) (by unfold maxLen; omega) (by omega) hbase
  obtain ⟨A, c, rfl⟩ := own_form h2
  refine uponIn_of_value (v := .slice A (l.length + ys.length) c) (w' := w') hF (by rw [ho]; intro c hc; cases hc) ?_ (h A c w' ?_ h3)
  · unfold execOp
    simp only [ho, resolve, invoke, builtin, Sem.run_bind, Sem.run_pure, Result.andThen_ok, List.map_toArray, List.map_cons, List.map_nil, hs, hx, hr]
  · unfold OwnI
    rw [List.length_append, List.map_append]
    exact h2
/-- .. of rows. -/
theorem appRS {F : Fence} {n0 : Nat} {o : Oper} {a : Act} {K : Act → World → Prop} {Q : Exit → Act → World → Prop} (hF : ∀ f, F.fn f) (w : World) (s x : Operand)
    (ho : o.op = .call { callee := .builtin .append, args := #[s, x], argTypes := #[35, 35] })
    (base : Nat) (v : Value) (l : List Row) (hs : a.eval s = v) (hown : OwnR w base v l) (b2 : Nat) (u : Value) (ys : List Row) (hx : a.eval x = u) (hu : OwnR w b2 u ys) (hlen : l.length + ys.length ≤ 1000000) (hbase : base ≤ w.heap.size)
    (h : ∀ A c w', OwnR w' base (.slice A (l.length + ys.length) c) (l ++ ys) → w.grownBy w' v.ownBlock → K (a.put o.dst (.slice A (l.length + ys.length) c)) w') : Oper.wpIn F n0 Try.prog o a w K Q := by
  obtain ⟨i0, hi, hz0, hz1, hz2⟩ := info_parts infoRow
  obtain ⟨v', w', hr, h2, h3⟩ := run_appOwn (size := 3) (bytes := 24) Try.underlying35 hi hz0 hz1 hz2 rfl (by omega) w o.type base v l.length _ hown b2 u ys.length _ hu (by intro u hu; obtain ⟨b, _, hb⟩ := List.mem_flatMap.1 hu; simp at hb; rcases hb with rfl | rfl | rfl <;> rfl) (by unfold maxLen; omega) (by omega) hbase
  obtain ⟨A, c, rfl⟩ := own_form h2
  refine uponIn_of_value (v := .slice A (l.length + ys.length) c) (w' := w') hF (by rw [ho]; intro c hc; cases hc) ?_ (h A c w' ?_ h3)
  · unfold execOp
    simp only [ho, resolve, invoke, builtin, Sem.run_bind, Sem.run_pure, Result.andThen_ok, List.map_toArray, List.map_cons, List.map_nil, hs, hx, hr]
  · unfold OwnR
    rw [List.length_append, rcs_app]
    exact h2
/-- append of one bool whose cell is known. -/
theorem appB1S {F : Fence} {n0 : Nat} {o : Oper} {a : Act} {K : Act → World → Prop} {Q : Exit → Act → World → Prop} (hF : ∀ f, F.fn f) (w : World) (s x : Operand)
    (ho : o.op = .call { callee := .builtin .append, args := #[s, x], argTypes := #[22, 22] })
    (base : Nat) (v : Value) (l : List Bool) (n : Nat) (hn : l.length = n) (hs : a.eval s = v) (hown : OwnB w base v l) (B c : Nat) (y : Bool) (hx : a.eval x = .slice (some ⟨B, 0, none⟩) 1 c) (hb : Blk w B 4 #[.bool y]) (hlen : l.length ≤ 10000000) (hbase : base ≤ w.heap.size)
    (h : ∀ g c w', OwnB w' base (.slice (some ⟨g, 0, none⟩) (n + 1) c) (l ++ [y]) → w.grownBy w' v.ownBlock → K (a.put o.dst (.slice (some ⟨g, 0, none⟩) (n + 1) c)) w') : Oper.wpIn F n0 Try.prog o a w K Q := by
  subst hn
  obtain ⟨i0, hi, hz0, hz1, hz2⟩ := info_parts infoBl
  obtain ⟨g, cap, w', hr, h2, h3, _⟩ := run_append_lies (P := Try.prog) w 22 o.type base 4 i0 _ 1 1 Try.underlying22 hi hz0 hz1 hz2 rfl (by omega) v l.length _ hown ⟨B, 0, none⟩ 1 c [.bool y] (by simp) (fun j u hu => World.news_of_block (show w.heap[B]? = _ from hb) j u (by simpa using hu)) (by simp [Value.oneCell']) (by omega) (by unfold maxLen; omega) (by omega) hbase _ rfl
  refine uponIn_of_value (v := .slice (some ⟨g, 0, none⟩) (l.length + 1) cap) (w' := w') hF (by rw [ho]; intro c hc; cases hc) ?_ (h g cap w' ?_ h3)
  · unfold execOp
    simp only [ho, resolve, invoke, builtin, Sem.run_bind, Sem.run_pure, Result.andThen_ok, List.map_toArray, List.map_cons, List.map_nil, hs, hx, hr]
  · unfold OwnB
    rw [List.length_append, List.map_append]
    exact h2
/-- append of one int whose cell is known. -/
theorem appI1S {F : Fence} {n0 : Nat} {o : Oper} {a : Act} {K : Act → World → Prop} {Q : Exit → Act → World → Prop} (hF : ∀ f, F.fn f) (w : World) (s x : Operand)
    (ho : o.op = .call { callee := .builtin .append, args := #[s, x], argTypes := #[29, 29] })
    (base : Nat) (v : Value) (l : List Int) (n : Nat) (hn : l.length = n) (hs : a.eval s = v) (hown : OwnI w base v l) (B c : Nat) (y : Int) (hx : a.eval x = .slice (some ⟨B, 0, none⟩) 1 c) (hb : w.cell? ⟨B, 0, none⟩ = some (.int .i64 y)) (hlen : l.length ≤ 10000000) (hbase : base ≤ w.heap.size)
    (h : ∀ g c w', OwnI w' base (.slice (some ⟨g, 0, none⟩) (n + 1) c) (l ++ [y]) → w.grownBy w' v.ownBlock → K (a.put o.dst (.slice (some ⟨g, 0, none⟩) (n + 1) c)) w') : Oper.wpIn F n0 Try.prog o a w K Q := by
  subst hn
  obtain ⟨g, cap, w', hr, h2, h3, _⟩ := run_appJ w o.type base v l hown B c y hb hlen hbase
  refine uponIn_of_value (v := .slice (some ⟨g, 0, none⟩) (l.length + 1) cap) (w' := w') hF (by rw [ho]; intro c hc; cases hc) ?_ (h g cap w' h2 h3)
  unfold execOp
  simp only [ho, resolve, invoke, builtin, Sem.run_bind, Sem.run_pure, Result.andThen_ok, List.map_toArray, List.map_cons, List.map_nil, hs, hx, hr]
section
variable {ops : Array Oper} {rest : List Oper} {o : Oper} {a : Act} {Q : Exit → Act → World → Prop}
/-- append of one move, in a plain region. -/
theorem wp_appMs (w : World) (hgd : o.guard = none) (s x : Operand) (ho : o.op = .call { callee := .builtin .append, args := #[s, x], argTypes := #[38, 38] })
    (base : Nat) (v : Value) (l : List (Int × Value)) (n : Nat) (hn : l.length = n) (hs : a.eval s = v) (hown : OwnM w base v l) (B c : Nat) (y : Int × Value) (hy1 : y.2.oneCell' = true) (hx : a.eval x = .slice (some ⟨B, 0, none⟩) 1 c) (hb : Blk w B 41 #[.int .i64 y.1, y.2]) (hlen : l.length ≤ 1000000) (hbase : base ≤ w.heap.size)
    (h : ∀ A c w', OwnM w' base (.slice A (n + 1) c) (l ++ [y]) → w.grownBy w' v.ownBlock → wpList Try.prog ops Q rest (a.put o.dst (.slice A (n + 1) c)) w') : wpList Try.prog ops Q (o :: rest) a w := by
  subst hn
  obtain ⟨i0, hi, hz0, hz1, hz2⟩ := info_parts infoMv
  refine wpList_append_own_at w hgd s x 38 ho base 41 i0 _ 2 32 Try.underlying38 hi hz0 hz1 hz2 rfl (by omega) v l.length _ hs hown ⟨B, 0, none⟩ 1 c [.int .i64 y.1, y.2] hx (by simp) (fun j u hu => World.news_of_block (show w.heap[B]? = _ from hb) j u (by simpa using hu)) (by simpa [Value.oneCell'] using hy1) (by unfold maxLen; omega) (by omega) hbase ?_
  intro v' w' h1 h2 _ _
  obtain ⟨A, c', rfl⟩ := own_form h1
  refine h A c' w' ?_ h2
  unfold OwnM
  rw [List.length_append, mcs_app]
  exact h1
theorem wp_app0B (w : World) (hgd : o.guard = none) (s x : Operand) (ho : o.op = .call { callee := .builtin .append, args := #[s, x], argTypes := #[22, 22] })
    (A B : Option Addr) (n c d : Nat) (hnc : n ≤ c) (hs : a.eval s = .slice A n c) (hx : a.eval x = .slice B 0 d)
    (h : wpList Try.prog ops Q rest (a.put o.dst (.slice A n c)) w) : wpList Try.prog ops Q (o :: rest) a w := by
  obtain ⟨i0, hi, hz0, hz1, hz2⟩ := info_parts infoBl
  refine wpList_plain hgd fun K hK => ?_
  have hr := run_append0 Try.underlying22 (by intro k h; cases h) hi w o.type A B n c d hnc
  unfold Oper.wp execOp
  simp only [ho, resolve, invoke, builtin, Sem.run_bind, Sem.run_pure, Result.andThen_ok, List.map_toArray, List.map_cons, List.map_nil, hs, hx, hr]
  exact hK _ _ h
end
end Go.Proofs.Ytiaplhdgchbkkaa
