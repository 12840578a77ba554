
/- Rows of elements of any flat kind: one structure says how an element lies; append, reading and storing follow. -/
import Derived.Test.YtbefmjodpndndaaDoorOwnG
import Derived.Test.YtbefmjodpndndaaDoorOpen
set_option linter.unusedSimpArgs false
set_option linter.unusedVariables false
namespace Go.Proofs.YtbefmjodpndndaaDoor
open Go.RowKit Go.IntWalk

/-- How an element lies: its type e, its slice's type t, the cells that it takes. -/
structure RK (T : Type) [Rep T] where
  e : TypeId
  t : TypeId
  size : Nat
  bytes : Nat
  z : Value
  cs : T → List Value
  ok : T → Prop
  und : Tryd.prog.underlying t = some (.slice e)
  info : (Tryd.prog.info? e).map (fun i => (i.zero, i.size, i.bytes)) = some (some z, size, bytes)
  zcs : z.cells.size = size
  pos : 0 < size
  small : bytes ≤ 1000
  len : ∀ x, (cs x).length = size
  one : ∀ x, ∀ v ∈ cs x, v.oneCell' = true
  rsz : Rep.size T = size
  rep : ∀ (w : World) (B : Nat) x, ok x → Rep.rep w B (cs x) x
  inv : ∀ (w : World) (B : Nat) (c : List Value) x, Rep.rep w B c x → c = cs x ∧ ok x
section
variable {T : Type} [Rep T] (R : RK T)
def RK.all (l : List T) : List Value := l.flatMap R.cs
theorem RK.all_len (l : List T) : (R.all l).length = l.length * R.size := by
  induction l with
  | nil => simp [RK.all]
  | cons a l ih =>
    have e : R.all (a :: l) = R.cs a ++ R.all l := by simp [RK.all]
    rw [e, List.length_append, ih, R.len, List.length_cons, Nat.succ_mul, Nat.add_comm]
theorem RK.all_app (a b : List T) : R.all (a ++ b) = R.all a ++ R.all b := by simp [RK.all]
theorem RK.all_one (y : T) : R.all [y] = R.cs y := by simp [RK.all]
theorem RK.all_oneC (l : List T) : ∀ v ∈ R.all l, v.oneCell' = true := by
  intro u hu
  obtain ⟨b, _, hb⟩ := List.mem_flatMap.1 hu
  exact R.one b u hb
theorem RK.all_at : ∀ (l : List T) (k : Nat) (hk : k < l.length) (j : Nat), j < R.size → (R.all l)[k * R.size + j]? = (R.cs l[k])[j]?
  | x :: l, 0, _, j, hj => by
    have e : R.all (x :: l) = R.cs x ++ R.all l := by simp [RK.all]
    rw [e, Nat.zero_mul, Nat.zero_add, List.getElem?_append_left (by rw [R.len]; exact hj)]
    rfl
  | x :: l, k + 1, hk, j, hj => by
    have e : R.all (x :: l) = R.cs x ++ R.all l := by simp [RK.all]
    have := RK.all_at l k (by simpa using hk) j hj
    rw [e, List.getElem?_append_right (by rw [R.len, Nat.succ_mul]; omega), R.len, show (k + 1) * R.size + j - R.size = k * R.size + j by rw [Nat.succ_mul]; omega, this]
    rfl
theorem RK.all_set : ∀ (l : List T) (k : Nat) (hk : k < l.length) (j : Nat) (y : T) (u : Value), j < R.size → (R.cs l[k]).set j u = R.cs y → (R.all l).set (k * R.size + j) u = R.all (l.set k y)
  | x :: l, 0, _, j, y, u, hj, h => by
    have e : R.all (x :: l) = R.cs x ++ R.all l := by simp [RK.all]
    have e2 : R.all ((x :: l).set 0 y) = R.cs y ++ R.all l := by simp [RK.all]
    rw [e, e2, Nat.zero_mul, Nat.zero_add, List.set_append_left _ _ (by rw [R.len]; exact hj)]
    rw [← h]; rfl
  | x :: l, k + 1, hk, j, y, u, hj, h => by
    have e : R.all (x :: l) = R.cs x ++ R.all l := by simp [RK.all]
    have e2 : R.all ((x :: l).set (k + 1) y) = R.cs x ++ R.all (l.set k y) := by simp [RK.all]
    have := RK.all_set l k (by simpa using hk) j y u hj h
    rw [e, e2, List.set_append_right _ _ (by rw [R.len, Nat.succ_mul]; omega), R.len, show (k + 1) * R.size + j - R.size = k * R.size + j by rw [Nat.succ_mul]; omega, this]
/-- A row of the call's own. -/
def RK.Own (w : World) (base : Nat) (v : Value) (l : List T) : Prop := w.ownsRow base R.e R.size v l.length (R.all l)
variable {R} {w w' : World} {base B : Nat} {A : Option Addr} {v : Value} {l : List T}
theorem RK.Own.nil : R.Own w base (.slice none 0 0) [] := ⟨by simp [RK.all], .inl ⟨rfl, rfl⟩⟩
theorem RK.Own.fresh {g : Nat} (hb : Blk w g R.e (R.all l).toArray) (hg : base ≤ g) (hl : l.length ≤ maxLen) : R.Own w base (.slice (some ⟨g, 0, none⟩) l.length l.length) l :=
  ⟨R.all_len l, .inr ⟨g, l.length, _, rfl, hg, hb, Nat.le_refl _, hl, by simp [R.all_len], by rw [List.take_of_length_le (by rw [R.all_len]; exact Nat.le_refl _)]⟩⟩
theorem RK.Own.below (h : R.Own w base v l) (hb : Below w.heap.size w w') : R.Own w' base v l := own_kept h (fun g cs _ hB => hB.below hb hB.lt)
theorem RK.Own.base_ {b2 : Nat} (h : R.Own w base v l) (hb : b2 ≤ base) : R.Own w b2 v l := own_base h hb
theorem RK.Own.form (h : R.Own w base v l) : ∃ A c, v = .slice A l.length c := own_form h
theorem RK.Own.drew (h : R.Own w base v l) : R.Own w.drew base v l := h
theorem RK.Own.alloc (h : R.Own w base v l) (o : Obj) : R.Own (w.alloc o) base v l := h.below ((Below.refl _ _).alloc (Nat.le_refl _) o)
theorem RK.Own.slr (h : R.Own w base v l) (hi : ∀ x ∈ l, R.ok x) : ∃ A c, v = .slice A l.length c ∧ l.length ≤ c ∧ c ≤ maxLen ∧ SlR w w.heap.size A l := by
  by_cases h0 : 0 < l.length
  · obtain ⟨g, cap, cur, hv, _, hb, hc, hm, hcell⟩ := own_cell h h0
    refine ⟨_, cap, hv, hc, hm, fun k x hx => ?_⟩
    obtain ⟨hk, rfl⟩ := List.getElem?_eq_some_iff.1 hx
    refine ⟨g, 0, R.cs l[k], rfl, hb.lt, by rw [R.len, R.rsz], fun j u hu => ?_, R.rep _ _ _ (hi _ (List.getElem_mem hk))⟩
    have hj : j < R.size := by rw [← R.len l[k]]; exact (List.getElem?_eq_some_iff.1 hu).1
    rw [R.rsz, hb.cell, Nat.zero_add, hcell _ (by calc k * R.size + j < k * R.size + R.size := by omega
      _ = (k + 1) * R.size := by rw [Nat.succ_mul]
      _ ≤ l.length * R.size := Nat.mul_le_mul_right _ hk), R.all_at l k hk j hj, hu]
  · have e : l = [] := List.eq_nil_of_length_eq_zero (by omega)
    subst e
    rcases h.2 with ⟨hv, _⟩ | ⟨g, cap, cur, hv, _, _, hc, hm, _⟩
    · exact ⟨none, 0, hv, Nat.le_refl _, Nat.zero_le _, SlR.nil⟩
    · exact ⟨_, cap, hv, Nat.zero_le _, hm, SlR.nil⟩
/-- A cell of a row of the call's own. -/
theorem RK.Own.at_ {g c n : Nat} (h : R.Own w base (.slice (some ⟨g, 0, none⟩) n c) l) {k : Nat} (hk : k < l.length) : g < w.heap.size ∧ base ≤ g ∧ (∀ j, j < R.size → w.cell? ⟨g, k * R.size + j, none⟩ = (R.cs l[k])[j]?) ∧ ∀ o, w.frozen? ⟨g, o, none⟩ = false := by
  obtain ⟨g', cap, cur, hv, hg, hb, hc, hm, hcell⟩ := own_cell h (by omega)
  injection hv with hv _ _
  injection hv with hv
  injection hv with hv
  subst hv
  refine ⟨hb.lt, hg, fun j hj => ?_, fun o => hb.frozen o⟩
  rw [hb.cell, hcell _ (by calc k * R.size + j < k * R.size + R.size := by omega
      _ = (k + 1) * R.size := by rw [Nat.succ_mul]
      _ ≤ l.length * R.size := Nat.mul_le_mul_right _ hk), R.all_at l k hk j hj]
theorem RK.Own.set_ {g c n : Nat} (h : R.Own w base (.slice (some ⟨g, 0, none⟩) n c) l) {k : Nat} (hk : k < l.length) {j : Nat} (hj : j < R.size) {y : T} {u : Value} (hy : (R.cs l[k]).set j u = R.cs y) :
    R.Own (w.setCell ⟨g, k * R.size + j, none⟩ u) base (.slice (some ⟨g, 0, none⟩) n c) (l.set k y) := by
  have hn : n = l.length := by
    obtain ⟨A, c', e⟩ := own_form h
    injection e
  subst hn
  have h9 := own_set h (k := k * R.size + j) (by calc k * R.size + j < k * R.size + R.size := by omega
      _ = (k + 1) * R.size := by rw [Nat.succ_mul]
      _ ≤ l.length * R.size := Nat.mul_le_mul_right _ hk) u
  rw [R.all_set l k hk j y u hj hy] at h9
  unfold RK.Own
  rw [List.length_set]
  exact h9
/-- The cells of a list that can be read. -/
theorem RK.src (R : RK T) {b off : Nat} (h : SlR w B (some ⟨b, off, none⟩) l) : ∀ (j : Nat) (u : Value), (R.all l)[j]? = some u → w.cell? ((⟨b, off, none⟩ : Addr).add j) = some u := by
  intro j u hu
  have hj : j < l.length * R.size := by rw [← R.all_len]; exact (List.getElem?_eq_some_iff.1 hu).1
  have hk : j / R.size < l.length := (Nat.div_lt_iff_lt_mul R.pos).2 hj
  have hm : j % R.size < R.size := Nat.mod_lt _ R.pos
  have hjj : j / R.size * R.size + j % R.size = j := by rw [Nat.mul_comm]; exact Nat.div_add_mod j R.size
  obtain ⟨b', off', es, hA, _, hs, hc, hr⟩ := h (j / R.size) _ (List.getElem?_eq_getElem hk)
  obtain ⟨rfl, _⟩ := R.inv _ _ _ _ hr
  injection hA with hA
  injection hA with e1 e2 _
  subst e1 e2
  have hadd : (⟨b, off, none⟩ : Addr).add j = ⟨b, off + j, none⟩ := by unfold Addr.add; by_cases h0 : j = 0 <;> simp [h0]
  have h2 := R.all_at l (j / R.size) hk (j % R.size) hm
  rw [hjj, hu] at h2
  have h3 := hc (j % R.size) u h2.symm
  rw [R.rsz, Nat.add_assoc, hjj] at h3
  rw [hadd]
  exact h3
theorem RK.oks (R : RK T) (h : SlR w B A l) : ∀ x ∈ l, R.ok x := by
  intro x hx
  obtain ⟨k, hk, rfl⟩ := List.getElem_of_mem hx
  obtain ⟨b, off, es, _, _, _, _, hr⟩ := h k _ (List.getElem?_eq_getElem hk)
  exact (R.inv _ _ _ _ hr).2
/-- An element that can be read: its cells. -/
theorem RK.elem (R : RK T) (h : SlR w B A l) {k : Nat} (hk : k < l.length) : ∃ b off, A = some ⟨b, off, none⟩ ∧ b < B ∧ (∀ j, j < R.size → w.cell? ⟨b, off + k * R.size + j, none⟩ = (R.cs l[k])[j]?) ∧ R.ok l[k] := by
  obtain ⟨b, off, es, hA, hb, hs, hc, hr⟩ := h k _ (List.getElem?_eq_getElem hk)
  obtain ⟨rfl, ho⟩ := R.inv _ _ _ _ hr
  refine ⟨b, off, hA, hb, fun j hj => ?_, ho⟩
  have hj' : j < (R.cs l[k]).length := by rw [R.len]; exact hj
  rw [← R.rsz, hc j _ (List.getElem?_eq_getElem hj'), List.getElem?_eq_getElem hj']
/-- A block that holds the list: the slice over it. -/
theorem RK.blk (R : RK T) {g : Nat} (hb : Blk w g R.e (R.all l).toArray) (hi : ∀ x ∈ l, R.ok x) : SlR w w.heap.size (some ⟨g, 0, none⟩) l := by
  intro k x hx
  obtain ⟨hk, rfl⟩ := List.getElem?_eq_some_iff.1 hx
  refine ⟨g, 0, R.cs l[k], rfl, hb.lt, by rw [R.len, R.rsz], fun j u hu => ?_, R.rep _ _ _ (hi _ (List.getElem_mem hk))⟩
  have hj : j < R.size := by rw [← R.len l[k]]; exact (List.getElem?_eq_some_iff.1 hu).1
  rw [R.rsz, hb.cell, Nat.zero_add, List.getElem?_toArray, R.all_at l k hk j hj, hu]
/-- append of a list that can be read, onto a row of the call's own. -/
theorem RK.Own.run_app (h : R.Own w base v l) {ys : List T} (hs : SlR w B A ys) (ty : TypeId) (c : Nat) (hlen : l.length + ys.length ≤ 100000000) (hbase : base ≤ w.heap.size) :
    ∃ A' c' w', (Builtin.append_ #[R.t, R.t] ty #[v, .slice A ys.length c]).run Tryd.prog w = .ok (.slice A' (l.length + ys.length) c') w' ∧ R.Own w' base (.slice A' (l.length + ys.length) c') (l ++ ys) ∧ w.grownBy w' v.ownBlock := by
  obtain ⟨i0, hi, hz0, hz1, hz2⟩ := info_parts R.info
  have hmx : l.length + ys.length ≤ maxLen := by unfold maxLen; omega
  by_cases h0 : 0 < ys.length
  · obtain ⟨b, off, rfl, _⟩ := R.elem hs h0
    obtain ⟨v', w', hr, h2, h3, _, _⟩ := run_append_own_at (P := Tryd.prog) w base R.t ty R.e i0 _ R.size R.bytes R.und hi hz0 hz1 hz2 R.zcs R.pos v l.length _ h ⟨b, off, none⟩ ys.length c (R.all ys) (R.all_len ys) (R.src hs) (R.all_oneC ys) hmx (by
      have := R.small
      calc (l.length + ys.length) * R.bytes ≤ 100000000 * 1000 := Nat.mul_le_mul hlen this
        _ ≤ _ := by omega) hbase
    obtain ⟨A', c', rfl⟩ := own_form h2
    refine ⟨A', c', w', hr, ?_, h3⟩
    unfold RK.Own
    rw [List.length_append, R.all_app]
    exact h2
  · have e : ys = [] := List.eq_nil_of_length_eq_zero (by omega)
    subst e
    obtain ⟨A1, c1, rfl, hnc⟩ : ∃ A1 c1, v = .slice A1 l.length c1 ∧ l.length ≤ c1 := by
      rcases h.2 with ⟨rfl, hn⟩ | ⟨g, cap, cur, rfl, _, _, hc, _⟩
      · exact ⟨none, 0, by rw [hn], by omega⟩
      · exact ⟨_, cap, rfl, hc⟩
    refine ⟨A1, c1, w, run_append0 R.und (by intro k h; cases h) hi w ty A1 A l.length c1 c hnc, by simpa using h, World.grownBy.refl _ _⟩
/-- .. as an operation of a drawn region. -/
theorem RK.appS (R : RK T) {F : Fence} {n0 : Nat} {o : Oper} {a : Act} {K : Act → World → Prop} {Q : Exit → Act → World → Prop} (hF : ∀ f, F.fn f) (s x : Operand)
    (ho : o.op = .call { callee := .builtin .append, args := #[s, x], argTypes := #[R.t, R.t] }) {ys : List T} {c : Nat} (hv : a.eval s = v) (hown : R.Own w base v l) (hx : a.eval x = .slice A ys.length c) (hs : SlR w B A ys) (hlen : l.length + ys.length ≤ 100000000) (hbase : base ≤ w.heap.size)
    (h : ∀ A' c' w', R.Own w' base (.slice A' (l.length + ys.length) c') (l ++ ys) → w.grownBy w' v.ownBlock → K (a.put o.dst (.slice A' (l.length + ys.length) c')) w') : Oper.wpIn F n0 Tryd.prog o a w K Q := by
  obtain ⟨A', c', w', hr, h2, h3⟩ := hown.run_app hs o.type c hlen hbase
  refine uponIn_of_value (v := .slice A' (l.length + ys.length) c') (w' := w') hF (by rw [ho]; intro c hc; cases hc) ?_ (h A' c' w' h2 h3)
  unfold execOp
  simp only [ho, resolve, invoke, builtin, Sem.run_bind, Sem.run_pure, Result.andThen_ok, List.map_toArray, List.map_cons, List.map_nil, hv, hx, hr]
/-- .. of a plain one. -/
theorem RK.appL (R : RK T) {ops : Array Oper} {rest : List Oper} {o : Oper} {a : Act} {Q : Exit → Act → World → Prop} (w : World) (hgd : o.guard = none) (s x : Operand)
    (ho : o.op = .call { callee := .builtin .append, args := #[s, x], argTypes := #[R.t, R.t] }) {ys : List T} {c : Nat} (hv : a.eval s = v) (hown : R.Own w base v l) (hx : a.eval x = .slice A ys.length c) (hs : SlR w B A ys) (hlen : l.length + ys.length ≤ 100000000) (hbase : base ≤ w.heap.size)
    (h : ∀ A' c' w', R.Own w' base (.slice A' (l.length + ys.length) c') (l ++ ys) → w.grownBy w' v.ownBlock → wpList Tryd.prog ops Q rest (a.put o.dst (.slice A' (l.length + ys.length) c')) w') : wpList Tryd.prog ops Q (o :: rest) a w := by
  obtain ⟨A', c', w', hr, h2, h3⟩ := hown.run_app hs o.type c hlen hbase
  refine wpList_plain hgd fun K hK => ?_
  unfold Oper.wp execOp
  simp only [ho, resolve, invoke, builtin, Sem.run_bind, Sem.run_pure, Result.andThen_ok, List.map_toArray, List.map_cons, List.map_nil, hv, hx, hr]
  exact hK _ _ (h A' c' w' h2 h3)
end
end Go.Proofs.YtbefmjodpndndaaDoor
