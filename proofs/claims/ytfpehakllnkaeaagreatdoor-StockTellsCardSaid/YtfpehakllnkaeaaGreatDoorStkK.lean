
/- Stock: boxes, lots and takes in rows of the call's own; Clone; a copy made by make and copy. -/
import Derived.Test.YtfpehakllnkaeaaGreatDoorStkJ
import Derived.Laws.CopyRow
set_option linter.unusedSimpArgs false
set_option linter.unusedVariables false
namespace Go.Proofs.YtfpehakllnkaeaaGreatDoor
open Go.RowKit Go.IntWalk

def b3 (l : List Bx) : List Value := l.flatMap fun x => [.int .i64 x.1, .int .i64 x.2.1, .int .i64 x.2.2]
theorem b3_len (l : List Bx) : (b3 l).length = l.length * 3 := by induction l with | nil => rfl | cons a l ih => simp [b3, List.flatMap_cons] at ih ⊢; omega
theorem b3_app (a b : List Bx) : b3 (a ++ b) = b3 a ++ b3 b := by simp [b3]
theorem b3_at : ∀ (l : List Bx) (k : Nat) (hk : k < l.length), (b3 l)[k * 3]? = some (.int .i64 l[k].1) ∧ (b3 l)[k * 3 + 1]? = some (.int .i64 l[k].2.1) ∧ (b3 l)[k * 3 + 2]? = some (.int .i64 l[k].2.2)
  | x :: l, 0, _ => by simp [b3]
  | x :: l, k + 1, hk => by
    have := b3_at l k (by simpa using hk)
    have e : b3 (x :: l) = .int .i64 x.1 :: .int .i64 x.2.1 :: .int .i64 x.2.2 :: b3 l := rfl
    rw [e, show (k + 1) * 3 = k * 3 + 3 by omega]
    simpa using this
theorem b3_one (l : List Bx) : ∀ v ∈ b3 l, v.oneCell' = true := by
  intro u hu
  obtain ⟨b, _, hb⟩ := List.mem_flatMap.1 hu
  simp at hb
  rcases hb with rfl | rfl | rfl <;> rfl
theorem b3_set : ∀ (l : List Bx) (k : Nat) (hk : k < l.length) (n : Int), (b3 l).set (k * 3 + 1) (.int .i64 n) = b3 (l.set k (l[k].1, n, l[k].2.2))
  | x :: l, 0, _, n => by simp [b3]
  | x :: l, k + 1, hk, n => by
    have := b3_set l k (by simpa using hk) n
    have e : b3 (x :: l) = .int .i64 x.1 :: .int .i64 x.2.1 :: .int .i64 x.2.2 :: b3 l := rfl
    rw [e, show (k + 1) * 3 + 1 = (k * 3 + 1) + 1 + 1 + 1 by omega]
    simp only [List.set_cons_succ, this, List.getElem_cons_succ]
    rfl
def OwnX (w : World) (base : Nat) (v : Value) (l : List Bx) : Prop := w.ownsRow base 45 3 v l.length (b3 l)
/-- The cells of a list of boxes that can be read. -/
theorem SlR.b3c {w : World} {B b off : Nat} {l : List Bx} (h : SlR w B (some ⟨b, off, none⟩) l) : ∀ (j : Nat) (u : Value), (b3 l)[j]? = some u → w.cell? ((⟨b, off, none⟩ : Addr).add j) = some u := by
  intro j u hu
  have hj : j < l.length * 3 := by rw [← b3_len]; exact (List.getElem?_eq_some_iff.1 hu).1
  have hk : j / 3 < l.length := by omega
  obtain ⟨b', off', hA, _, c0, c1, c2, _⟩ := h.i3 hk
  injection hA with hA
  injection hA with e1 e2 _
  subst e1 e2
  obtain ⟨r0, r1, r2⟩ := b3_at l (j / 3) hk
  have hadd : (⟨b, off, none⟩ : Addr).add j = ⟨b, off + j, none⟩ := by unfold Addr.add; by_cases h0 : j = 0 <;> simp [h0]
  rw [hadd]
  have hm : j % 3 = 0 ∨ j % 3 = 1 ∨ j % 3 = 2 := by omega
  rcases hm with hm | hm | hm
  · have e : j = j / 3 * 3 := by omega
    rw [e, r0] at hu
    rw [e, c0, hu]
  · have e : j = j / 3 * 3 + 1 := by omega
    rw [e, r1] at hu
    rw [e, ← Nat.add_assoc, c1, hu]
  · have e : j = j / 3 * 3 + 2 := by omega
    rw [e, r2] at hu
    rw [e, ← Nat.add_assoc, c2, hu]
theorem OwnX.slr {w : World} {base : Nat} {v : Value} {l : List Bx} (h : OwnX w base v l) (hi : ∀ x ∈ l, I3 x) : ∃ A c, v = .slice A l.length c ∧ l.length ≤ c ∧ c ≤ maxLen ∧ SlR w w.heap.size A l := by
  by_cases h0 : 0 < l.length
  · obtain ⟨g, cap, cur, hv, _, hb, hc, hm, hcell⟩ := own_cell h h0
    refine ⟨_, cap, hv, hc, hm, fun k x hx => ?_⟩
    obtain ⟨hk, rfl⟩ := List.getElem?_eq_some_iff.1 hx
    obtain ⟨i0, i1, i2⟩ := hi _ (List.getElem_mem hk)
    obtain ⟨r0, r1, r2⟩ := b3_at l k hk
    refine ⟨g, 0, [.int .i64 l[k].1, .int .i64 l[k].2.1, .int .i64 l[k].2.2], rfl, hb.lt, rfl, fun j u hu => ?_, [.int .i64 l[k].1], [.int .i64 l[k].2.1, .int .i64 l[k].2.2], rfl, rfl, rfl, ⟨rfl, i0⟩, [.int .i64 l[k].2.1], [.int .i64 l[k].2.2], rfl, rfl, rfl, ⟨rfl, i1⟩, rfl, i2⟩
    have h3 : Rep.size Bx = 3 := rfl
    rw [h3, hb.cell]
    match j, hu with
    | 0, hu => simp at hu; subst hu; rw [hcell _ (by omega)]; simpa using r0
    | 1, hu => simp at hu; subst hu; rw [hcell _ (by omega)]; simpa using r1
    | 2, hu => simp at hu; subst hu; rw [hcell _ (by omega)]; simpa using r2
    | j + 3, hu => simp at hu
  · have e : l = [] := List.eq_nil_of_length_eq_zero (by omega)
    subst e
    rcases h.2 with ⟨hv, _⟩ | ⟨g, cap, cur, hv, _, _, hc, hm, _⟩
    · exact ⟨none, 0, hv, Nat.le_refl _, Nat.zero_le _, SlR.nil⟩
    · exact ⟨_, cap, hv, Nat.zero_le _, hm, SlR.nil⟩
/-- A box's count anew. -/
theorem OwnX.setCnt {w : World} {base g c n : Nat} {l : List Bx} (h : OwnX w base (.slice (some ⟨g, 0, none⟩) n c) l) {k : Nat} (hk : k < l.length) (y : Int) : OwnX (w.setCell ⟨g, k * 3 + 1, none⟩ (.int .i64 y)) base (.slice (some ⟨g, 0, none⟩) n c) (l.set k (l[k].1, y, l[k].2.2)) := by
  have hn : n = l.length := by
    obtain ⟨A, c', e⟩ := own_form h
    injection e
  subst hn
  have h9 := own_set h (k := k * 3 + 1) (by omega) (.int .i64 y)
  rw [b3_set l k hk y] at h9
  unfold OwnX
  rw [List.length_set]
  exact h9
theorem OwnX.at_ {w : World} {base g c n : Nat} {l : List Bx} (h : OwnX w base (.slice (some ⟨g, 0, none⟩) n c) l) {k : Nat} (hk : k < l.length) : w.cell? ⟨g, k * 3, none⟩ = some (.int .i64 l[k].1) ∧ w.cell? ⟨g, k * 3 + 1, none⟩ = some (.int .i64 l[k].2.1) ∧ w.cell? ⟨g, k * 3 + 2, none⟩ = some (.int .i64 l[k].2.2) ∧ g < w.heap.size ∧ ∀ o, w.frozen? ⟨g, o, none⟩ = false := by
  obtain ⟨g', cap, cur, hv, _, hb, hc, hm, hcell⟩ := own_cell h (by omega)
  injection hv with hv _ _
  injection hv with hv
  injection hv with hv
  subst hv
  obtain ⟨r0, r1, r2⟩ := b3_at l k hk
  exact ⟨by rw [hb.cell, hcell _ (by omega), r0], by rw [hb.cell, hcell _ (by omega), r1], by rw [hb.cell, hcell _ (by omega), r2], hb.lt, fun o => hb.frozen o⟩
theorem infoBx : (Tryz.prog.info? 45).map (fun i => (i.zero, i.size, i.bytes)) = some (some (.agg #[.int .i64 0, .int .i64 0, .int .i64 0]), 3, 24) := by kernel_rfl
/-- copy of boxes into a row just made. -/
theorem run_copyB (w : World) (ty : TypeId) (g n dCap : Nat) (A : Option Addr) (sCap : Nat) (cur : Array Value) (t : TypeId) (cs : List Value) (hg : w.heap[g]? = some (.cells cur t (0, 0))) (hn : cs.length = n * 3)
    (hsrc : 0 < n → ∃ a, A = some a ∧ ∀ j v, cs[j]? = some v → w.cell? (a.add j) = some v) (hfit : cs.length = cur.size) (h1 : ∀ v ∈ cs, v.oneCell' = true) :
    ∃ w', (Builtin.copy_ #[24, 24] ty #[.slice (some ⟨g, 0, none⟩) n dCap, .slice A n sCap]).run Tryz.prog w = .ok (goInt n) w' ∧ Blk w' g t cs.toArray ∧ w.grownBy w' (some g) := by
  obtain ⟨i0, hi, hz0, hz1, hz2⟩ := info_parts infoBx
  have hu := Tryz.underlying24
  by_cases h0 : 0 < n
  · obtain ⟨a, rfl, hsr⟩ := hsrc h0
    have hl := run_loadCells_list (P := Tryz.prog) w a cs hsr
    have hst := run_storeCells_at Tryz.prog g 0 t cs 0 cur w hg (by simp; omega) h1
    have hcs : cur.toList.take 0 ++ cs ++ cur.toList.drop (0 + cs.length) = cs := by
      rw [List.take_zero, List.nil_append, Nat.zero_add, List.drop_of_length_le (by simp; omega), List.append_nil]
    have hst2 : (storeCells ⟨g, 0, none⟩ cs 0).run Tryz.prog w = .ok () (w.setRow g cs.toArray) := by
      have h9 := hst
      simp only [Nat.add_zero] at h9
      rw [hcs] at h9
      exact h9
    refine ⟨w.setRow g cs.toArray, ?_, setRow_heap w g cur cs.toArray t (0, 0) hg, ⟨rfl, rfl, rfl, by simp, fun k _ hk => setRow_other w g k _ (fun e => hk (by rw [e]))⟩⟩
    simp [Builtin.copy_, run_underlying hu, Builtin.lenOf, Builtin.firstCells, sizeOf, typeInfo, hi, hz1, ← hn, hl, hst2]
  · have hn0 : n = 0 := by omega
    subst hn0
    have hc0 : cs = [] := List.eq_nil_of_length_eq_zero (by omega)
    subst hc0
    have hcur : cur = #[] := by
      apply Array.eq_empty_of_size_eq_zero
      simpa using hfit.symm
    subst hcur
    refine ⟨w, ?_, hg, World.grownBy.refl _ _⟩
    cases A <;> simp [Builtin.copy_, run_underlying hu, Builtin.lenOf, Builtin.firstCells, sizeOf, typeInfo, hi, storeCells, loadCells, go_sem]
section
variable {ops : Array Oper} {rest : List Oper} {o : Oper} {a : Act} {Q : Exit → Act → World → Prop}
theorem wp_copyB (w : World) (hgd : o.guard = none) (d s : Operand) (ho : o.op = .call { callee := .builtin .copy, args := #[d, s], argTypes := #[24, 24] })
    (g n dCap : Nat) (A : Option Addr) (sCap : Nat) (cur : Array Value) (t : TypeId) (cs : List Value) (hd : a.eval d = .slice (some ⟨g, 0, none⟩) n dCap) (hs : a.eval s = .slice A n sCap) (hg : w.heap[g]? = some (.cells cur t (0, 0))) (hn : cs.length = n * 3)
    (hsrc : 0 < n → ∃ a, A = some a ∧ ∀ j v, cs[j]? = some v → w.cell? (a.add j) = some v) (hfit : cs.length = cur.size) (h1 : ∀ v ∈ cs, v.oneCell' = true)
    (h : ∀ w', Blk w' g t cs.toArray → w.grownBy w' (some g) → wpList Tryz.prog ops Q rest (a.put o.dst (goInt n)) w') : wpList Tryz.prog ops Q (o :: rest) a w := by
  refine wpList_plain hgd fun K hK => ?_
  obtain ⟨w', hr, h2, h3⟩ := run_copyB w o.type g n dCap A sCap cur t cs hg hn hsrc hfit h1
  unfold Oper.wp execOp
  simp only [ho, resolve, invoke, builtin, Sem.run_bind, Sem.run_pure, Result.andThen_ok, List.map_toArray, List.map_cons, List.map_nil, hd, hs, hr]
  exact hK _ _ (h w' h2 h3)
/-- append of boxes that can be read, onto a row of the call's own. -/
theorem wp_appXs (w : World) (hgd : o.guard = none) (s x : Operand) (ho : o.op = .call { callee := .builtin .append, args := #[s, x], argTypes := #[24, 24] })
    (base : Nat) (v : Value) (l : List Bx) (hs : a.eval s = v) (hown : OwnX w base v l) (A : Option Addr) (c : Nat) (ys : List Bx) (hx : a.eval x = .slice A ys.length c) {B : Nat} (hsl : SlR w B A ys) (hlen : l.length + ys.length ≤ 1000000) (hbase : base ≤ w.heap.size)
    (h : ∀ v' w', OwnX w' base v' (l ++ ys) → w.grownBy w' v.ownBlock → wpList Tryz.prog ops Q rest (a.put o.dst v') w') : wpList Tryz.prog ops Q (o :: rest) a w := by
  obtain ⟨i0, hi, hz0, hz1, hz2⟩ := info_parts infoBx
  by_cases h0 : 0 < ys.length
  · obtain ⟨b, off, rfl, _⟩ := hsl.i3 h0
    refine wpList_append_own_at w hgd s x 24 ho base 45 i0 _ 3 24 Tryz.underlying24 hi hz0 hz1 hz2 rfl (by omega) v l.length _ hs hown ⟨b, off, none⟩ ys.length c (b3 ys) hx (b3_len ys) hsl.b3c (b3_one ys) (by unfold maxLen; omega) (by omega) hbase ?_
    intro v' w' h1 h2 _ _
    refine h v' w' ?_ h2
    unfold OwnX
    rw [List.length_append, b3_app]
    exact h1
  · have e : ys = [] := List.eq_nil_of_length_eq_zero (by omega)
    subst e
    obtain ⟨A1, c1, rfl, hnc⟩ : ∃ A1 c1, v = .slice A1 l.length c1 ∧ l.length ≤ c1 := by
      rcases hown.2 with ⟨rfl, hn⟩ | ⟨g, cap, cur, rfl, _, _, hc, _⟩
      · exact ⟨none, 0, by rw [hn], by omega⟩
      · exact ⟨_, cap, rfl, hc⟩
    refine wpList_plain hgd fun K hK => ?_
    have hr := run_append0 Tryz.underlying24 (by intro k h; cases h) hi w o.type A1 A l.length c1 c hnc
    unfold Oper.wp execOp
    simp only [ho, resolve, invoke, builtin, Sem.run_bind, Sem.run_pure, Result.andThen_ok, List.map_toArray, List.map_cons, List.map_nil, hs, hx, List.length_nil, hr]
    exact hK _ _ (h _ w (by simpa using hown) (World.grownBy.refl _ _))
end
set_option maxRecDepth 100000 in
set_option maxHeartbeats 1000000 in
theorem cloneB_any (A : Option Addr) (c : Nat) (bs : List Bx) (w : World) (hl : bs.length ≤ 100000) (h : SlR w w.heap.size A bs) :
    Calls Tryz.prog 64 #[.slice A bs.length c] w fun e w' => ∃ v, e = .returned v ∧ OwnX w' w.heap.size v bs ∧ Below w.heap.size w w' := by
  have hn1 := fun W => Lib.run_eql_slice_nil (P := Tryz.prog) W 24 45 A bs.length c 0 0 Tryz.underlying24
  cases A with
  | none =>
    simp only [Option.isNone_none] at hn1
    have hb : bs.length = 0 := by
      rcases Nat.eq_zero_or_pos bs.length with h0 | h0
      · exact h0
      · obtain ⟨b, off, hA, _⟩ := h.i3 h0; cases hA
    have e : bs = [] := List.eq_nil_of_length_eq_zero hb
    subst e
    clear hn1
    have hn2 := fun W => Lib.run_eql_slice_nil (P := Tryz.prog) W 24 45 none 0 c 0 0 Tryz.underlying24
    simp only [Option.isNone_none] at hn2
    rw [List.length_nil]
    go_enter Tryz.func64, Tryz.ntmps64
    go_wp2_with fail
    go_ret
    exact ⟨_, rfl, ⟨rfl, .inl ⟨rfl, rfl⟩⟩, Below.refl _ _⟩
  | some ad =>
    simp only [Option.isNone_some] at hn1
    have b1 := hid ((Below.refl w.heap.size w).alloc (Nat.le_refl _) (Obj.cells #[] 45))
    have O1 := hid (show OwnX (w.alloc (Obj.cells #[] 45)) w.heap.size (.slice (some ⟨w.heap.size, 0, none⟩) 0 0) [] from ⟨rfl, .inr ⟨_, 0, #[], rfl, Nat.le_refl _, Blk.new w 45 #[], Nat.le_refl _, by unfold maxLen; omega, rfl, rfl⟩⟩)
    have H1 := hid (h.below b1.out)
    clear h
    go_enter Tryz.func64, Tryz.ntmps64
    go_wp2_with (at_builtin; refine wp_appXs _ rfl (.tmp 5) (.tmp 6) rfl w.heap.size (.slice (some ⟨w.heap.size, 0, none⟩) 0 0) [] rfl O1.out (some ad) c bs rfl H1.out (by simp; omega) b1.out.size ?_; intro v1 w1 ho1 hg1; have HO := hid ho1; have HB := hid (b1.out.grown hg1 b1.out.size (fun q e => (own_blk O1.out q e).1)); clear ho1 hg1)
    clear hn1
    go_wp2_with fail
    go_ret
    exact ⟨_, rfl, by simpa using HO.out, HB.out⟩
end Go.Proofs.YtfpehakllnkaeaaGreatDoor
