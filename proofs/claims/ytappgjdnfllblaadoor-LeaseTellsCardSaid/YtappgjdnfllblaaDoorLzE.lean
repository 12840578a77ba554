
/- Rows of any flat kind; the reference reader's calls as functions. -/
import Derived.Test.YtappgjdnfllblaaDoorLzA
import Derived.Test.YtappgjdnfllblaaDoorLzC
set_option linter.unusedSimpArgs false
set_option linter.unusedVariables false
namespace Go.Proofs.YtappgjdnfllblaaDoor
open Go.RowKit Go.IntWalk

/-- How an element lies: its type e, its slice's type t, the cells that it takes. -/
structure RK (T : Type) [Rep T] where
  e : TypeId
  t : TypeId
  size : Nat
  bytes : Nat
  z : Value
  cs : T → List Value
  ok : T → Prop
  und : Tryd.prog.underlying t = some (.slice e)
  info : (Tryd.prog.info? e).map (fun i => (i.zero, i.size, i.bytes)) = some (some z, size, bytes)
  zcs : z.cells.size = size
  pos : 0 < size
  small : bytes ≤ 1000
  len : ∀ x, (cs x).length = size
  one : ∀ x, ∀ v ∈ cs x, v.oneCell' = true
  rsz : Rep.size T = size
  rep : ∀ (w : World) (B : Nat) x, ok x → Rep.rep w B (cs x) x
  inv : ∀ (w : World) (B : Nat) (c : List Value) x, Rep.rep w B c x → c = cs x ∧ ok x
section
variable {T : Type} [Rep T] (R : RK T)
def RK.all (l : List T) : List Value := l.flatMap R.cs
theorem RK.all_len (l : List T) : (R.all l).length = l.length * R.size := by
  induction l with
  | nil => simp [RK.all]
  | cons a l ih =>
    have e : R.all (a :: l) = R.cs a ++ R.all l := by simp [RK.all]
    rw [e, List.length_append, ih, R.len, List.length_cons, Nat.succ_mul, Nat.add_comm]
theorem RK.all_app (a b : List T) : R.all (a ++ b) = R.all a ++ R.all b := by simp [RK.all]
theorem RK.all_one (y : T) : R.all [y] = R.cs y := by simp [RK.all]
theorem RK.all_oneC (l : List T) : ∀ v ∈ R.all l, v.oneCell' = true := by
  intro u hu
  obtain ⟨b, _, hb⟩ := List.mem_flatMap.1 hu
  exact R.one b u hb
theorem RK.all_at : ∀ (l : List T) (k : Nat) (hk : k < l.length) (j : Nat), j < R.size → (R.all l)[k * R.size + j]? = (R.cs l[k])[j]?
  | x :: l, 0, _, j, hj => by
    have e : R.all (x :: l) = R.cs x ++ R.all l := by simp [RK.all]
    rw [e, Nat.zero_mul, Nat.zero_add, List.getElem?_append_left (by rw [R.len]; exact hj)]
    rfl
  | x :: l, k + 1, hk, j, hj => by
    have e : R.all (x :: l) = R.cs x ++ R.all l := by simp [RK.all]
    have := RK.all_at l k (by simpa using hk) j hj
    rw [e, List.getElem?_append_right (by rw [R.len, Nat.succ_mul]; omega), R.len, show (k + 1) * R.size + j - R.size = k * R.size + j by rw [Nat.succ_mul]; omega, this]
    rfl
theorem RK.all_set : ∀ (l : List T) (k : Nat) (hk : k < l.length) (j : Nat) (y : T) (u : Value), j < R.size → (R.cs l[k]).set j u = R.cs y → (R.all l).set (k * R.size + j) u = R.all (l.set k y)
  | x :: l, 0, _, j, y, u, hj, h => by
    have e : R.all (x :: l) = R.cs x ++ R.all l := by simp [RK.all]
    have e2 : R.all ((x :: l).set 0 y) = R.cs y ++ R.all l := by simp [RK.all]
    rw [e, e2, Nat.zero_mul, Nat.zero_add, List.set_append_left _ _ (by rw [R.len]; exact hj)]
    rw [← h]; rfl
  | x :: l, k + 1, hk, j, y, u, hj, h => by
    have e : R.all (x :: l) = R.cs x ++ R.all l := by simp [RK.all]
    have e2 : R.all ((x :: l).set (k + 1) y) = R.cs x ++ R.all (l.set k y) := by simp [RK.all]
    have := RK.all_set l k (by simpa using hk) j y u hj h
    rw [e, e2, List.set_append_right _ _ (by rw [R.len, Nat.succ_mul]; omega), R.len, show (k + 1) * R.size + j - R.size = k * R.size + j by rw [Nat.succ_mul]; omega, this]
/-- A row of the call's own. -/
def RK.Own (w : World) (base : Nat) (v : Value) (l : List T) : Prop := w.ownsRow base R.e R.size v l.length (R.all l)
variable {R} {w w' : World} {base B : Nat} {A : Option Addr} {v : Value} {l : List T}
theorem RK.Own.nil : R.Own w base (.slice none 0 0) [] := ⟨by simp [RK.all], .inl ⟨rfl, rfl⟩⟩
theorem RK.Own.fresh {g : Nat} (hb : Blk w g R.e (R.all l).toArray) (hg : base ≤ g) (hl : l.length ≤ maxLen) : R.Own w base (.slice (some ⟨g, 0, none⟩) l.length l.length) l :=
  ⟨R.all_len l, .inr ⟨g, l.length, _, rfl, hg, hb, Nat.le_refl _, hl, by simp [R.all_len], by rw [List.take_of_length_le (by rw [R.all_len]; exact Nat.le_refl _)]⟩⟩
theorem RK.Own.below (h : R.Own w base v l) (hb : Below w.heap.size w w') : R.Own w' base v l := own_kept h (fun g cs _ hB => hB.below hb hB.lt)
theorem RK.Own.base_ {b2 : Nat} (h : R.Own w base v l) (hb : b2 ≤ base) : R.Own w b2 v l := own_base h hb
theorem RK.Own.form (h : R.Own w base v l) : ∃ A c, v = .slice A l.length c := own_form h
theorem RK.Own.drew (h : R.Own w base v l) : R.Own w.drew base v l := h
theorem RK.Own.alloc (h : R.Own w base v l) (o : Obj) : R.Own (w.alloc o) base v l := h.below ((Below.refl _ _).alloc (Nat.le_refl _) o)
theorem RK.Own.slr (h : R.Own w base v l) (hi : ∀ x ∈ l, R.ok x) : ∃ A c, v = .slice A l.length c ∧ l.length ≤ c ∧ c ≤ maxLen ∧ SlR w w.heap.size A l := by
  by_cases h0 : 0 < l.length
  · obtain ⟨g, cap, cur, hv, _, hb, hc, hm, hcell⟩ := own_cell h h0
    refine ⟨_, cap, hv, hc, hm, fun k x hx => ?_⟩
    obtain ⟨hk, rfl⟩ := List.getElem?_eq_some_iff.1 hx
    refine ⟨g, 0, R.cs l[k], rfl, hb.lt, by rw [R.len, R.rsz], fun j u hu => ?_, R.rep _ _ _ (hi _ (List.getElem_mem hk))⟩
    have hj : j < R.size := by rw [← R.len l[k]]; exact (List.getElem?_eq_some_iff.1 hu).1
    rw [R.rsz, hb.cell, Nat.zero_add, hcell _ (by calc k * R.size + j < k * R.size + R.size := by omega
      _ = (k + 1) * R.size := by rw [Nat.succ_mul]
      _ ≤ l.length * R.size := Nat.mul_le_mul_right _ hk), R.all_at l k hk j hj, hu]
  · have e : l = [] := List.eq_nil_of_length_eq_zero (by omega)
    subst e
    rcases h.2 with ⟨hv, _⟩ | ⟨g, cap, cur, hv, _, _, hc, hm, _⟩
    · exact ⟨none, 0, hv, Nat.le_refl _, Nat.zero_le _, SlR.nil⟩
    · exact ⟨_, cap, hv, Nat.zero_le _, hm, SlR.nil⟩
/-- A cell of a row of the call's own. -/
theorem RK.Own.at_ {g c n : Nat} (h : R.Own w base (.slice (some ⟨g, 0, none⟩) n c) l) {k : Nat} (hk : k < l.length) : g < w.heap.size ∧ base ≤ g ∧ (∀ j, j < R.size → w.cell? ⟨g, k * R.size + j, none⟩ = (R.cs l[k])[j]?) ∧ ∀ o, w.frozen? ⟨g, o, none⟩ = false := by
  obtain ⟨g', cap, cur, hv, hg, hb, hc, hm, hcell⟩ := own_cell h (by omega)
  injection hv with hv _ _
  injection hv with hv
  injection hv with hv
  subst hv
  refine ⟨hb.lt, hg, fun j hj => ?_, fun o => hb.frozen o⟩
  rw [hb.cell, hcell _ (by calc k * R.size + j < k * R.size + R.size := by omega
      _ = (k + 1) * R.size := by rw [Nat.succ_mul]
      _ ≤ l.length * R.size := Nat.mul_le_mul_right _ hk), R.all_at l k hk j hj]
theorem RK.Own.set_ {g c n : Nat} (h : R.Own w base (.slice (some ⟨g, 0, none⟩) n c) l) {k : Nat} (hk : k < l.length) {j : Nat} (hj : j < R.size) {y : T} {u : Value} (hy : (R.cs l[k]).set j u = R.cs y) :
    R.Own (w.setCell ⟨g, k * R.size + j, none⟩ u) base (.slice (some ⟨g, 0, none⟩) n c) (l.set k y) := by
  have hn : n = l.length := by
    obtain ⟨A, c', e⟩ := own_form h
    injection e
  subst hn
  have h9 := own_set h (k := k * R.size + j) (by calc k * R.size + j < k * R.size + R.size := by omega
      _ = (k + 1) * R.size := by rw [Nat.succ_mul]
      _ ≤ l.length * R.size := Nat.mul_le_mul_right _ hk) u
  rw [R.all_set l k hk j y u hj hy] at h9
  unfold RK.Own
  rw [List.length_set]
  exact h9
/-- The cells of a list that can be read. -/
theorem RK.src (R : RK T) {b off : Nat} (h : SlR w B (some ⟨b, off, none⟩) l) : ∀ (j : Nat) (u : Value), (R.all l)[j]? = some u → w.cell? ((⟨b, off, none⟩ : Addr).add j) = some u := by
  intro j u hu
  have hj : j < l.length * R.size := by rw [← R.all_len]; exact (List.getElem?_eq_some_iff.1 hu).1
  have hk : j / R.size < l.length := (Nat.div_lt_iff_lt_mul R.pos).2 hj
  have hm : j % R.size < R.size := Nat.mod_lt _ R.pos
  have hjj : j / R.size * R.size + j % R.size = j := by rw [Nat.mul_comm]; exact Nat.div_add_mod j R.size
  obtain ⟨b', off', es, hA, _, hs, hc, hr⟩ := h (j / R.size) _ (List.getElem?_eq_getElem hk)
  obtain ⟨rfl, _⟩ := R.inv _ _ _ _ hr
  injection hA with hA
  injection hA with e1 e2 _
  subst e1 e2
  have hadd : (⟨b, off, none⟩ : Addr).add j = ⟨b, off + j, none⟩ := by unfold Addr.add; by_cases h0 : j = 0 <;> simp [h0]
  have h2 := R.all_at l (j / R.size) hk (j % R.size) hm
  rw [hjj, hu] at h2
  have h3 := hc (j % R.size) u h2.symm
  rw [R.rsz, Nat.add_assoc, hjj] at h3
  rw [hadd]
  exact h3
theorem RK.oks (R : RK T) (h : SlR w B A l) : ∀ x ∈ l, R.ok x := by
  intro x hx
  obtain ⟨k, hk, rfl⟩ := List.getElem_of_mem hx
  obtain ⟨b, off, es, _, _, _, _, hr⟩ := h k _ (List.getElem?_eq_getElem hk)
  exact (R.inv _ _ _ _ hr).2
/-- An element that can be read: its cells. -/
theorem RK.elem (R : RK T) (h : SlR w B A l) {k : Nat} (hk : k < l.length) : ∃ b off, A = some ⟨b, off, none⟩ ∧ b < B ∧ (∀ j, j < R.size → w.cell? ⟨b, off + k * R.size + j, none⟩ = (R.cs l[k])[j]?) ∧ R.ok l[k] := by
  obtain ⟨b, off, es, hA, hb, hs, hc, hr⟩ := h k _ (List.getElem?_eq_getElem hk)
  obtain ⟨rfl, ho⟩ := R.inv _ _ _ _ hr
  refine ⟨b, off, hA, hb, fun j hj => ?_, ho⟩
  have hj' : j < (R.cs l[k]).length := by rw [R.len]; exact hj
  rw [← R.rsz, hc j _ (List.getElem?_eq_getElem hj'), List.getElem?_eq_getElem hj']
/-- A block that holds the list: the slice over it. -/
theorem RK.blk (R : RK T) {g : Nat} (hb : Blk w g R.e (R.all l).toArray) (hi : ∀ x ∈ l, R.ok x) : SlR w w.heap.size (some ⟨g, 0, none⟩) l := by
  intro k x hx
  obtain ⟨hk, rfl⟩ := List.getElem?_eq_some_iff.1 hx
  refine ⟨g, 0, R.cs l[k], rfl, hb.lt, by rw [R.len, R.rsz], fun j u hu => ?_, R.rep _ _ _ (hi _ (List.getElem_mem hk))⟩
  have hj : j < R.size := by rw [← R.len l[k]]; exact (List.getElem?_eq_some_iff.1 hu).1
  rw [R.rsz, hb.cell, Nat.zero_add, List.getElem?_toArray, R.all_at l k hk j hj, hu]
/-- append of a list that can be read, onto a row of the call's own. -/
theorem RK.Own.run_app (h : R.Own w base v l) {ys : List T} (hs : SlR w B A ys) (ty : TypeId) (c : Nat) (hlen : l.length + ys.length ≤ 100000000) (hbase : base ≤ w.heap.size) :
    ∃ A' c' w', (Builtin.append_ #[R.t, R.t] ty #[v, .slice A ys.length c]).run Tryd.prog w = .ok (.slice A' (l.length + ys.length) c') w' ∧ R.Own w' base (.slice A' (l.length + ys.length) c') (l ++ ys) ∧ w.grownBy w' v.ownBlock := by
  obtain ⟨i0, hi, hz0, hz1, hz2⟩ := info_parts R.info
  have hmx : l.length + ys.length ≤ maxLen := by unfold maxLen; omega
  by_cases h0 : 0 < ys.length
  · obtain ⟨b, off, rfl, _⟩ := R.elem hs h0
    obtain ⟨v', w', hr, h2, h3, _, _⟩ := run_append_own_at (P := Tryd.prog) w base R.t ty R.e i0 _ R.size R.bytes R.und hi hz0 hz1 hz2 R.zcs R.pos v l.length _ h ⟨b, off, none⟩ ys.length c (R.all ys) (R.all_len ys) (R.src hs) (R.all_oneC ys) hmx (by
      have := R.small
      calc (l.length + ys.length) * R.bytes ≤ 100000000 * 1000 := Nat.mul_le_mul hlen this
        _ ≤ _ := by omega) hbase
    obtain ⟨A', c', rfl⟩ := own_form h2
    refine ⟨A', c', w', hr, ?_, h3⟩
    unfold RK.Own
    rw [List.length_append, R.all_app]
    exact h2
  · have e : ys = [] := List.eq_nil_of_length_eq_zero (by omega)
    subst e
    obtain ⟨A1, c1, rfl, hnc⟩ : ∃ A1 c1, v = .slice A1 l.length c1 ∧ l.length ≤ c1 := by
      rcases h.2 with ⟨rfl, hn⟩ | ⟨g, cap, cur, rfl, _, _, hc, _⟩
      · exact ⟨none, 0, by rw [hn], by omega⟩
      · exact ⟨_, cap, rfl, hc⟩
    refine ⟨A1, c1, w, run_append0 R.und (by intro k h; cases h) hi w ty A1 A l.length c1 c hnc, by simpa using h, World.grownBy.refl _ _⟩
/-- .. as an operation of a drawn region. -/
theorem RK.appS (R : RK T) {F : Fence} {n0 : Nat} {o : Oper} {a : Act} {K : Act → World → Prop} {Q : Exit → Act → World → Prop} (hF : ∀ f, F.fn f) (s x : Operand)
    (ho : o.op = .call { callee := .builtin .append, args := #[s, x], argTypes := #[R.t, R.t] }) {ys : List T} {c : Nat} (hv : a.eval s = v) (hown : R.Own w base v l) (hx : a.eval x = .slice A ys.length c) (hs : SlR w B A ys) (hlen : l.length + ys.length ≤ 100000000) (hbase : base ≤ w.heap.size)
    (h : ∀ A' c' w', R.Own w' base (.slice A' (l.length + ys.length) c') (l ++ ys) → w.grownBy w' v.ownBlock → K (a.put o.dst (.slice A' (l.length + ys.length) c')) w') : Oper.wpIn F n0 Tryd.prog o a w K Q := by
  obtain ⟨A', c', w', hr, h2, h3⟩ := hown.run_app hs o.type c hlen hbase
  refine uponIn_of_value (v := .slice A' (l.length + ys.length) c') (w' := w') hF (by rw [ho]; intro c hc; cases hc) ?_ (h A' c' w' h2 h3)
  unfold execOp
  simp only [ho, resolve, invoke, builtin, Sem.run_bind, Sem.run_pure, Result.andThen_ok, List.map_toArray, List.map_cons, List.map_nil, hv, hx, hr]
/-- .. of a plain one. -/
theorem RK.appL (R : RK T) {ops : Array Oper} {rest : List Oper} {o : Oper} {a : Act} {Q : Exit → Act → World → Prop} (w : World) (hgd : o.guard = none) (s x : Operand)
    (ho : o.op = .call { callee := .builtin .append, args := #[s, x], argTypes := #[R.t, R.t] }) {ys : List T} {c : Nat} (hv : a.eval s = v) (hown : R.Own w base v l) (hx : a.eval x = .slice A ys.length c) (hs : SlR w B A ys) (hlen : l.length + ys.length ≤ 100000000) (hbase : base ≤ w.heap.size)
    (h : ∀ A' c' w', R.Own w' base (.slice A' (l.length + ys.length) c') (l ++ ys) → w.grownBy w' v.ownBlock → wpList Tryd.prog ops Q rest (a.put o.dst (.slice A' (l.length + ys.length) c')) w') : wpList Tryd.prog ops Q (o :: rest) a w := by
  obtain ⟨A', c', w', hr, h2, h3⟩ := hown.run_app hs o.type c hlen hbase
  refine wpList_plain hgd fun K hK => ?_
  unfold Oper.wp execOp
  simp only [ho, resolve, invoke, builtin, Sem.run_bind, Sem.run_pure, Result.andThen_ok, List.map_toArray, List.map_cons, List.map_nil, hv, hx, hr]
  exact hK _ _ (h A' c' w' h2 h3)
end
end Go.Proofs.YtappgjdnfllblaaDoor
namespace Go.Proofs.YtappgjdnfllblaaDoor
open Go.RowKit Go.IntWalk

def pv (l : List UInt8) : Nat := l.foldl (fun a c => a * 10 + (c.toNat - 48)) 0
theorem pv_snoc (l : List UInt8) (c : UInt8) : pv (l ++ [c]) = pv l * 10 + (c.toNat - 48) := by unfold pv; rw [List.foldl_append]; rfl
theorem pv_dec (u : Nat) : pv (Lib.decDigits u) = u := by
  induction u using Nat.strongRecOn with
  | _ u ih =>
    have hd : (UInt8.ofNat (48 + u % 10)).toNat = 48 + u % 10 := by
      first | exact UInt8.toNat_ofNat_of_lt' (by omega) | (show (48 + u % 10) % 256 = _; omega)
    by_cases h10 : u < 10
    · rw [Lib.decDigits_one h10]
      have hd' : (UInt8.ofNat (48 + u)).toNat = 48 + u := by
        first | exact UInt8.toNat_ofNat_of_lt' (by omega) | (show (48 + u) % 256 = _; omega)
      unfold pv
      simp only [List.foldl_cons, List.foldl_nil, hd']
      omega
    · rw [Lib.decDigits.eq_1 u, dif_neg h10, pv_snoc, ih (u / 10) (by omega), hd]
      omega
/-- Where the digits begin. -/
def fr (l : List UInt8) : Nat := match l with | [] => 0 | c :: _ => if c = 45 then 1 else 0
theorem fr_le (l : List UInt8) : fr l ≤ 1 ∧ fr l ≤ l.length := by
  unfold fr
  split
  · simp
  · split <;> simp
theorem itoa_fr {l : List UInt8} {m : Int} (h : Lib.itoa m = l) : l.drop (fr l) = Lib.decDigits m.natAbs ∧ (fr l = 1 → m < 0) ∧ (fr l = 0 → 0 ≤ m) := by
  by_cases hm : m < 0
  · have e : Lib.itoa m = 45 :: Lib.decDigits m.natAbs := by unfold Lib.itoa; rw [if_pos hm]
    rw [e] at h
    subst h
    simp [fr, hm]
  · have e : Lib.itoa m = Lib.decDigits m.natAbs := by unfold Lib.itoa; rw [if_neg hm]; congr 1; omega
    rw [e] at h
    obtain ⟨c, r, hc, h1, h2⟩ := dec_head m.natAbs
    have hf : fr l = 0 := by
      rw [← h, hc]
      unfold fr
      have : ¬ c = 45 := by intro hcc; subst hcc; simp at h1
      simp [this]
    rw [hf]
    exact ⟨by rw [List.drop_zero, ← h], fun hh => by omega, fun _ => by omega⟩
def BackRes (l : List UInt8) (e : Ending) : Prop :=
  (∃ v, I64 v ∧ Lib.itoa v = l ∧ e = .returned (.tuple #[.int .i64 v, .bool true])) ∨ (∃ v, I64 v ∧ (∀ m, I64 m → Lib.itoa m ≠ l) ∧ e = .returned (.tuple #[.int .i64 v, .bool false]))
/-- What the loop knows. -/
structure Bk (l : List UInt8) (k : Nat) (z : Int) : Prop where
  i : I64 z
  d : ∀ c ∈ (l.drop (fr l)).take (k - fr l), 48 ≤ c.toNat ∧ c.toNat ≤ 57
  v : pv ((l.drop (fr l)).take (k - fr l)) ≤ 9223372036854775808 → z = -(pv ((l.drop (fr l)).take (k - fr l)) : Int)
theorem Bk.zero (l : List UInt8) : Bk l (fr l) 0 := ⟨by simp [I64], by simp, by simp [pv]⟩
theorem wrap64_bd (n : Int) : -9223372036854775808 ≤ wrap64 n ∧ wrap64 n ≤ 9223372036854775807 := by unfold wrap64; omega
theorem Bk.step {l : List UInt8} {k : Nat} {z : Int} (h : Bk l k z) (hf : fr l ≤ k) (hk : k < l.length) (h1 : 48 ≤ l[k].toNat) (h2 : l[k].toNat ≤ 57) : Bk l (k + 1) (wrap64 (wrap64 (10 * z) - ((l[k].toNat : Int) - 48))) := by
  have e : (l.drop (fr l)).take (k + 1 - fr l) = (l.drop (fr l)).take (k - fr l) ++ [l[k]] := by
    rw [show k + 1 - fr l = (k - fr l) + 1 by omega, List.take_add_one, List.getElem?_drop, show fr l + (k - fr l) = k by omega, List.getElem?_eq_getElem hk]
    rfl
  refine ⟨wrap64_bd _, ?_, ?_⟩
  · rw [e]
    intro c hc
    rcases List.mem_append.1 hc with hc | hc
    · exact h.d c hc
    · rw [List.mem_singleton.1 hc]; exact ⟨h1, h2⟩
  · rw [e, pv_snoc]
    intro hp
    have hz := h.v (by omega)
    have hi := h.i.bd
    generalize pv ((l.drop (fr l)).take (k - fr l)) = p at *
    unfold wrap64
    omega
theorem Bk.bad {l : List UInt8} {k : Nat} (hf : fr l ≤ k) (hk : k < l.length) (hc : ¬ (48 ≤ l[k].toNat ∧ l[k].toNat ≤ 57)) : ∀ m, I64 m → Lib.itoa m ≠ l := by
  intro m _ he
  have h1 := (itoa_fr he).1
  have hm : l[k] ∈ l.drop (fr l) := by
    have : (l.drop (fr l))[k - fr l]? = some l[k] := by rw [List.getElem?_drop, show fr l + (k - fr l) = k by omega, List.getElem?_eq_getElem hk]
    exact List.mem_of_getElem? this
  rw [h1] at hm
  exact hc (dec_range _ _ hm)
theorem Bk.val {l : List UInt8} {z : Int} (h : Bk l l.length z) {m : Int} (hm : I64 m) (he : Lib.itoa m = l) : (fr l = 1 → z = m) ∧ (fr l = 0 → wrap64 (-z) = m) := by
  obtain ⟨h1, h2, h3⟩ := itoa_fr he
  have hv := h.v
  rw [List.take_of_length_le (by simp), h1, pv_dec] at hv
  have hb := hm.bd
  have := hv (by omega)
  refine ⟨fun hf => by have := h2 hf; omega, fun hf => ?_⟩
  have := h3 hf
  unfold wrap64
  omega
theorem sz_get (s : ByteArray) (k : Nat) (h : k < s.size) (h2 : k < s.data.toList.length) : s[k] = s.data.toList[k] := by simp; rfl
set_option maxRecDepth 100000 in
set_option maxHeartbeats 1000000 in
theorem back1 (s : ByteArray) (w : World) (hs : s.size ≤ 21) (h0 : 0 < s.size) (hm : s[0] = 45) :
    Calls Tryd.prog 92 #[.string s] w fun e w' => BackRes s.data.toList e ∧ Below w.heap.size w w' := by
  have h0' : ((s[0].toNat : Int) == 45) = true := by rw [hm]; rfl
  have hF := hid (show fr s.data.toList = 1 by
    have h := sz_get s 0 h0 (by rw [← size_list]; exact h0)
    rw [hm] at h
    unfold fr
    cases hc : s.data.toList with
    | nil => exact absurd h0 (by rw [size_list, hc]; simp)
    | cons c r => simp [hc] at h; simp [← h])
  clear hm
  have Hl := hid (size_list s)
  go_enter Tryd.func92, Tryd.ntmps92
  go_wp2_with fail
  go_loop [5, 6] (fun n i => ∃ (k : Nat) (z : Int), 1 ≤ k ∧ k ≤ s.size ∧ i = .int .i64 k ∧ n = .int .i64 z ∧ Bk s.data.toList k z) (fun _ i => s.size - (intOf i).toNat)
  case atStart => exact ⟨1, 0, by omega, by omega, rfl, rfl, by have := Bk.zero s.data.toList; rw [hF.out] at this; exact this⟩
  case round =>
    obtain ⟨k, z, hk1, hk2, rfl, rfl, hbk⟩ := hrel
    by_cases hlt : k < s.size
    · have hz := hbk.i.bd
      have hk20 : (k : Int) ≤ 20 := by omega
      have hkl : k < s.data.toList.length := by rw [← Hl.out]; exact hlt
      have hst := hid (hbk.step (by rw [hF.out]; exact hk1) hkl)
      have hbd := hid (Bk.bad (l := s.data.toList) (k := k) (by rw [hF.out]; exact hk1) hkl)
      rw [← sz_get s k hlt hkl] at hst hbd
      by_cases h1 : 48 ≤ (s[k].toNat : Int)
      · by_cases h2 : (s[k].toNat : Int) ≤ 57
        · have hst2 := hid (hst.out (by omega) (by omega))
          clear hst hbd hbk
          go_wp2_with fail
          go_round
          case rel => exact ⟨k + 1, _, by omega, by omega, by go_num, rfl, hst2.out⟩
          case measure => simp [intOf]; omega
        · have hb2 := hid (hbd.out (by omega))
          clear hst hbd hbk
          go_wp2_with fail
          go_ret2
          exact ⟨.inr ⟨0, by simp [I64], hb2.out, rfl⟩, Below.refl _ _⟩
      · have hb2 := hid (hbd.out (by omega))
        clear hst hbd hbk
        go_wp2_with fail
        go_ret2
        exact ⟨.inr ⟨0, by simp [I64], hb2.out, rfl⟩, Below.refl _ _⟩
    · obtain rfl : k = s.size := by omega
      rw [Hl.out] at hbk
      have hz := hbk.i.bd
      have hv := hid (fun m hm he => hbk.val (m := m) hm he)
      clear hbk
      have hI : I64 (z) := ⟨hz.1, hz.2⟩
      by_cases hit : Lib.itoa (z) = s.data.toList
      · have Hit := hid hit
        have hc : ((bs (encI (z))).toList == (s ++ ⟨#[59]⟩).toList) = true := by
          rw [show s ++ ⟨#[59]⟩ = bs (s.data.toList ++ [59]) by rw [← bs_app, bs_of]; rfl, bs_list, bs_list, encI, hit]; simp
        clear hit
        go_wp2_with fail
        refine (rInt_any _ hI _).mono ?_
        rintro e w1 ⟨rfl, hB⟩
        go_wp2_with fail
        go_ret2
        exact ⟨.inl ⟨_, hI, Hit.out, rfl⟩, hB⟩
      · have hno := hid (show ∀ m, I64 m → Lib.itoa m ≠ s.data.toList by
          intro m hm he
          have := (hv.out m hm he).1 hF.out
          rw [← this] at he
          exact hit he)
        have hc : ((bs (encI (z))).toList == (s ++ ⟨#[59]⟩).toList) = false := by
          rw [show s ++ ⟨#[59]⟩ = bs (s.data.toList ++ [59]) by rw [← bs_app, bs_of]; rfl, bs_list, bs_list, encI]
          simp only [beq_eq_false_iff_ne]
          intro h
          exact hit (List.append_cancel_right h)
        clear hit
        go_wp2_with fail
        refine (rInt_any _ hI _).mono ?_
        rintro e w1 ⟨rfl, hB⟩
        go_wp2_with fail
        go_ret2
        exact ⟨.inr ⟨_, hI, hno.out, rfl⟩, hB⟩
set_option maxRecDepth 100000 in
set_option maxHeartbeats 1000000 in
theorem back0 (s : ByteArray) (w : World) (hs : s.size ≤ 21) (h0 : 0 < s.size) (hm : s[0] ≠ 45) :
    Calls Tryd.prog 92 #[.string s] w fun e w' => BackRes s.data.toList e ∧ Below w.heap.size w w' := by
  have h0' : ((s[0].toNat : Int) == 45) = false := by
    rw [beq_eq_false_iff_ne]
    intro h
    exact hm (UInt8.toNat_inj.1 (by have : s[0].toNat = 45 := by omega
                                    rw [this]; rfl))
  have hF := hid (show fr s.data.toList = 0 by
    have h := sz_get s 0 h0 (by rw [← size_list]; exact h0)
    unfold fr
    cases hc : s.data.toList with
    | nil => rfl
    | cons c r =>
      simp [hc] at h
      simp only
      rw [if_neg]
      intro h2
      exact hm (by rw [h, h2]))
  clear hm
  have Hl := hid (size_list s)
  go_enter Tryd.func92, Tryd.ntmps92
  go_wp2_with fail
  go_loop [5, 6] (fun n i => ∃ (k : Nat) (z : Int), 0 ≤ k ∧ k ≤ s.size ∧ i = .int .i64 k ∧ n = .int .i64 z ∧ Bk s.data.toList k z) (fun _ i => s.size - (intOf i).toNat)
  case atStart => exact ⟨0, 0, by omega, by omega, rfl, rfl, by have := Bk.zero s.data.toList; rw [hF.out] at this; exact this⟩
  case round =>
    obtain ⟨k, z, hk1, hk2, rfl, rfl, hbk⟩ := hrel
    by_cases hlt : k < s.size
    · have hz := hbk.i.bd
      have hk20 : (k : Int) ≤ 20 := by omega
      have hkl : k < s.data.toList.length := by rw [← Hl.out]; exact hlt
      have hst := hid (hbk.step (by rw [hF.out]; exact hk1) hkl)
      have hbd := hid (Bk.bad (l := s.data.toList) (k := k) (by rw [hF.out]; exact hk1) hkl)
      rw [← sz_get s k hlt hkl] at hst hbd
      by_cases h1 : 48 ≤ (s[k].toNat : Int)
      · by_cases h2 : (s[k].toNat : Int) ≤ 57
        · have hst2 := hid (hst.out (by omega) (by omega))
          clear hst hbd hbk
          go_wp2_with fail
          go_round
          case rel => exact ⟨k + 1, _, by omega, by omega, by go_num, rfl, hst2.out⟩
          case measure => simp [intOf]; omega
        · have hb2 := hid (hbd.out (by omega))
          clear hst hbd hbk
          go_wp2_with fail
          go_ret2
          exact ⟨.inr ⟨0, by simp [I64], hb2.out, rfl⟩, Below.refl _ _⟩
      · have hb2 := hid (hbd.out (by omega))
        clear hst hbd hbk
        go_wp2_with fail
        go_ret2
        exact ⟨.inr ⟨0, by simp [I64], hb2.out, rfl⟩, Below.refl _ _⟩
    · obtain rfl : k = s.size := by omega
      rw [Hl.out] at hbk
      have hz := hbk.i.bd
      have hv := hid (fun m hm he => hbk.val (m := m) hm he)
      clear hbk
      have hI : I64 (wrap64 (-z)) := wrap64_bd _
      by_cases hit : Lib.itoa (wrap64 (-z)) = s.data.toList
      · have Hit := hid hit
        have hc : ((bs (encI (wrap64 (-z)))).toList == (s ++ ⟨#[59]⟩).toList) = true := by
          rw [show s ++ ⟨#[59]⟩ = bs (s.data.toList ++ [59]) by rw [← bs_app, bs_of]; rfl, bs_list, bs_list, encI, hit]; simp
        clear hit
        go_wp2_with fail
        refine (rInt_any _ hI _).mono ?_
        rintro e w1 ⟨rfl, hB⟩
        go_wp2_with fail
        go_ret2
        exact ⟨.inl ⟨_, hI, Hit.out, rfl⟩, hB⟩
      · have hno := hid (show ∀ m, I64 m → Lib.itoa m ≠ s.data.toList by
          intro m hm he
          have := (hv.out m hm he).2 hF.out
          rw [← this] at he
          exact hit he)
        have hc : ((bs (encI (wrap64 (-z)))).toList == (s ++ ⟨#[59]⟩).toList) = false := by
          rw [show s ++ ⟨#[59]⟩ = bs (s.data.toList ++ [59]) by rw [← bs_app, bs_of]; rfl, bs_list, bs_list, encI]
          simp only [beq_eq_false_iff_ne]
          intro h
          exact hit (List.append_cancel_right h)
        clear hit
        go_wp2_with fail
        refine (rInt_any _ hI _).mono ?_
        rintro e w1 ⟨rfl, hB⟩
        go_wp2_with fail
        go_ret2
        exact ⟨.inr ⟨_, hI, hno.out, rfl⟩, hB⟩
set_option maxRecDepth 100000 in
set_option maxHeartbeats 1000000 in
theorem backE (s : ByteArray) (w : World) (hs : s = ⟨#[]⟩) :
    Calls Tryd.prog 92 #[.string s] w fun e w' => BackRes s.data.toList e ∧ Below w.heap.size w w' := by
  subst hs
  go_enter Tryd.func92, Tryd.ntmps92
  go_wp2_with fail
  go_loop [5, 6] (fun n i => n = .int .i64 0 ∧ i = .int .i64 0) (fun _ i => 0)
  case atStart => exact ⟨rfl, rfl⟩
  case round =>
    obtain ⟨rfl, rfl⟩ := hrel
    go_wp2_with fail
    refine (rInt_any 0 (by simp [I64]) _).mono ?_
    rintro e w1 ⟨rfl, hB⟩
    have hc : ((bs (encI 0)).toList == (⟨#[]⟩ ++ ⟨#[59]⟩ : ByteArray).toList) = false := by
      rw [show (⟨#[]⟩ ++ ⟨#[59]⟩ : ByteArray) = bs [59] by rfl, bs_list, bs_list]
      simp [encI, Lib.itoa, Lib.decDigits]
    have hc2 : ((bs (encI 0)).toList == (⟨#[59]⟩ : ByteArray).toList) = false := by
      rw [show (⟨#[59]⟩ : ByteArray) = bs [59] by rfl, bs_list, bs_list]
      simp [encI, Lib.itoa, Lib.decDigits]
    go_wp2_with fail
    go_ret2
    refine ⟨.inr ⟨0, by simp [I64], fun m _ he => ?_, rfl⟩, hB⟩
    have := dec_ne m.natAbs
    rw [← (itoa_fr he).1] at this
    simp at this
theorem backR_any (s : ByteArray) (w : World) (hs : s.size ≤ 21) : Calls Tryd.prog 92 #[.string s] w fun e w' => BackRes s.data.toList e ∧ Below w.heap.size w w' := by
  by_cases h0 : 0 < s.size
  · by_cases hm : s[0] = 45
    · exact back1 s w hs h0 hm
    · exact back0 s w hs h0 hm
  · exact backE s w (by
      have h1 : s.data.toList.length = 0 := by rw [← size_list]; omega
      have h2 : s.data.toList = [] := List.eq_nil_of_length_eq_zero h1
      rw [← bs_of s, h2]; rfl)
end Go.Proofs.YtappgjdnfllblaaDoor
namespace Go.Proofs.YtappgjdnfllblaaDoor
open Go.RowKit Go.IntWalk

/-- Block b is a reader of the reference's. -/
def Rr (w : World) (b : Nat) (l : List UInt8) (bad : Bool) : Prop := Blk w b 115 #[.string (bs l), .bool bad]
def RrRes (w : World) (b : Nat) (bad : Bool) (r : Option (Int × List UInt8)) (e : Ending) (w' : World) : Prop :=
  match r with
  | some (v, l) => e = .returned (.int .i64 v) ∧ Rr w' b l bad ∧ w.grownBy w' (some b)
  | none => e = .returned (.int .i64 0) ∧ Rr w' b [] true ∧ w.grownBy w' (some b)
set_option maxRecDepth 100000 in
set_option maxHeartbeats 400000 in
theorem failR_any (b : Nat) (l : List UInt8) (bad : Bool) (w : World) (h : Rr w b l bad) :
    Calls Tryd.prog 91 #[.pointer (some ⟨b, 0, none⟩)] w fun e w' => e = .returned (.int .i64 0) ∧ Rr w' b [] true ∧ w.grownBy w' (some b) := by
  obtain ⟨c0, c1⟩ := blk2' h
  have f0 := h.frozen 0
  have f1 := h.frozen 1
  have hz := h.lt
  go_enter Tryd.func91, Tryd.ntmps91
  go_wp2_with fail
  go_ret
  refine ⟨rfl, ?_, grown_trans (grown_set _ _ _ _) (grown_set _ _ _ _)⟩
  have := (Blk.set_ h 0 (.string ⟨#[]⟩)).set_ 1 (.bool true)
  simpa [Rr, bs] using this
set_option maxRecDepth 100000 in
set_option maxHeartbeats 400000 in
theorem openR_any (s : ByteArray) (w : World) :
    Calls Tryd.prog 51 #[.string s] w fun e w' => e = .returned (.pointer (some ⟨w.heap.size, 0, none⟩)) ∧ Rr w' w.heap.size s.data.toList false ∧ Below w.heap.size w w' := by
  go_enter Tryd.func51, Tryd.ntmps51
  go_wp2_with fail
  go_ret
  refine ⟨rfl, ?_, (Below.refl _ _).alloc (Nat.le_refl _) _⟩
  unfold Rr
  rw [bs_of]
  exact Blk.new _ _ _
set_option maxRecDepth 100000 in
set_option maxHeartbeats 400000 in
theorem doneR_any (b : Nat) (l : List UInt8) (bad : Bool) (w : World) (h : Rr w b l bad) :
    Calls Tryd.prog 53 #[.pointer (some ⟨b, 0, none⟩)] w fun e w' => e = .returned (.bool (!bad && l.isEmpty)) ∧ Below w.heap.size w w' := by
  obtain ⟨c0, c1⟩ := blk2' h
  cases bad with
  | true =>
    go_enter Tryd.func53, Tryd.ntmps53
    go_wp2_with fail
    go_ret
    exact ⟨rfl, by (repeat (first | exact Below.refl _ _ | assumption | refine below_drewN ?_ _ | refine Below.drew ?_ | refine Below.alloc ?_ (by (try simp); (try omega)) _ | refine Below.setCell ?_ (by (try simp); (try omega)) _))⟩
  | false =>
    go_enter Tryd.func53, Tryd.ntmps53
    go_wp2_with fail
    go_ret
    exact ⟨ret_bool (by rw [bs_list]; rfl), by (repeat (first | exact Below.refl _ _ | assumption | refine below_drewN ?_ _ | refine Below.drew ?_ | refine Below.alloc ?_ (by (try simp); (try omega)) _ | refine Below.setCell ?_ (by (try simp); (try omega)) _))⟩
def CrRes (w : World) (b : Nat) (bad : Bool) (r : Option (List UInt8)) (e : Ending) (w' : World) : Prop :=
  match r with
  | some l => e = .returned (.bool true) ∧ w.grownBy w' (some b) ∧ Rr w' b l bad
  | none => e = .returned (.bool false) ∧ w.grownBy w' (some b) ∧ Rr w' b [] true
theorem bs_get0 (c : UInt8) (l : List UInt8) : (bs (c :: l))[0]'(by rw [bs_size]; simp) = c := by
  have h := sz_get (bs (c :: l)) 0 (by rw [bs_size]; simp) (by simp [bs])
  refine Eq.trans h ?_
  simp [bs]
set_option maxRecDepth 100000 in
set_option maxHeartbeats 400000 in
theorem closeR_any (b : Nat) (l : List UInt8) (bad : Bool) (c : UInt8) (w : World) (h : Rr w b l bad) (hl : l.length ≤ 1000000000000) :
    Calls Tryd.prog 82 #[.pointer (some ⟨b, 0, none⟩), .int .u8 c.toNat] w (CrRes w b bad (cutL l c)) := by
  obtain ⟨c0, c1⟩ := blk2' h
  have f0 := h.frozen 0
  have hz := h.lt
  cases l with
  | nil =>
    have h0 : (bs []).size = 0 := rfl
    go_enter Tryd.func82, Tryd.ntmps82
    go_wp2_with fail
    refine (failR_any b [] bad _ h).mono ?_
    rintro e w2 ⟨rfl, h2, hg⟩
    go_wp2_with fail
    go_ret
    exact ⟨rfl, hg, h2⟩
  | cons x r =>
    have h0 : 0 < (bs (x :: r)).size := by rw [bs_size]; simp
    have hz2 : (bs (x :: r)).size ≤ 1000000000000 := by rw [bs_size]; exact hl
    have g0 := bs_get0 x r
    have G0 := hid g0
    clear g0
    by_cases hx : x = c
    · subst hx
      have e1 : ((bs (x :: r))[0].toNat == x.toNat) = true := by rw [G0.out]; simp
      have e2 : (((bs (x :: r))[0].toNat : Int) == (x.toNat : Int)) = true := by rw [G0.out]; simp
      have hc := hid (show cutL (x :: r) x = some r by simp [cutL])
      go_enter Tryd.func82, Tryd.ntmps82
      go_wp2_with fail
      go_ret
      rw [hc.out]
      refine ⟨rfl, grown_set _ _ _ _, ?_⟩
      have := Blk.set_ h 0 (.string (bs r))
      have e : (bs (x :: r)).extract 1 (bs (x :: r)).size = bs r := by rw [bs_extract, bs_size, List.take_length]; simp
      rw [e]
      unfold Rr
      simpa using this
    · have hx2 : (bs (x :: r))[0].toNat ≠ c.toNat := by rw [G0.out]; intro h; exact hx (UInt8.toNat_inj.1 h)
      have e1 : ((bs (x :: r))[0].toNat == c.toNat) = false := by simpa using hx2
      have e2 : (((bs (x :: r))[0].toNat : Int) == (c.toNat : Int)) = false := by rw [beq_eq_false_iff_ne]; omega
      clear hx2
      have hc := hid (show cutL (x :: r) c = none by simp [cutL, hx])
      go_enter Tryd.func82, Tryd.ntmps82
      go_wp2_with fail
      refine (failR_any b (x :: r) bad _ h).mono ?_
      rintro e w2 ⟨rfl, h2, hg⟩
      go_wp2_with fail
      go_ret
      rw [hc.out]
      exact ⟨rfl, hg, h2⟩

theorem first_occ {l a r : List UInt8} {en : UInt8} {k : Nat} (h : l = a ++ en :: r) (ha : ∀ x ∈ a, x ≠ en) (hk : k < l.length) (he : l[k] = en) (hn : ∀ x ∈ l.take k, x ≠ en) : a = l.take k := by
  have h2 : l = l.take k ++ en :: l.drop (k + 1) := by
    conv => lhs; rw [← List.take_append_drop k l, List.drop_eq_getElem_cons hk, he]
  have i1 := index_app en r a ha
  have i2 := index_app en (l.drop (k + 1)) (l.take k) hn
  rw [← h] at i1
  rw [← h2, i1] at i2
  have hl : a.length = (l.take k).length := by omega
  have h3 : a ++ en :: r = l.take k ++ en :: l.drop (k + 1) := by rw [← h, ← h2]
  exact (List.append_inj h3 hl).1
theorem itoa_not (v : Int) (en : UInt8) (h : 57 < en.toNat) : ∀ x ∈ Lib.itoa v, x ≠ en := by
  intro x hx e
  have := itoa_range v x hx
  rw [e] at this
  omega
theorem ahead_none {l : List UInt8} {en : UInt8} {m : Int} (h : ∀ x ∈ l.take 21, x ≠ en) : numL l en m = none := by
  cases hr : numL l en m with
  | none => rfl
  | some vr =>
    obtain ⟨v, r⟩ := vr
    exfalso
    have h1 := numL_split hr
    have h20 := itoa_len20 v (numL_bd hr)
    refine h en ?_ rfl
    rw [h1, List.take_append, List.mem_append]
    right
    rw [show 21 - (Lib.itoa v).length = (20 - (Lib.itoa v).length) + 1 by omega, List.take_succ_cons]
    exact List.mem_cons_self
theorem ahead_some {l : List UInt8} {en : UInt8} {m v : Int} {k : Nat} (hen : 57 < en.toNat) (hk : k < l.length) (he : l[k] = en) (hv : I64 v) (hi : Lib.itoa v = l.take k) (hm : m ≤ v) : numL l en m = some (v, l.drop (k + 1)) := by
  have h2 : l = Lib.itoa v ++ en :: l.drop (k + 1) := by
    rw [hi]
    conv => lhs; rw [← List.take_append_drop k l, List.drop_eq_getElem_cons hk, he]
  have := numL_itoa v hv en m (l.drop (k + 1)) hen hm
  rwa [← h2] at this
theorem ahead_no {l : List UInt8} {en : UInt8} {m : Int} {k : Nat} (hen : 57 < en.toNat) (hk : k < l.length) (he : l[k] = en) (hn : ∀ x ∈ l.take k, x ≠ en) (hb : ∀ v, I64 v → Lib.itoa v ≠ l.take k) : numL l en m = none := by
  cases hr : numL l en m with
  | none => rfl
  | some vr =>
    obtain ⟨v, r⟩ := vr
    exact absurd (first_occ (numL_split hr) (itoa_not v en hen) hk he hn) (hb v (numL_bd hr))
theorem bs_get (l : List UInt8) (k : Nat) (h : k < l.length) : (bs l)[k]'(by rw [bs_size]; exact h) = l[k] := by
  have h1 := sz_get (bs l) k (by rw [bs_size]; exact h) (by simpa [bs] using h)
  rw [h1]; simp [bs]
theorem take_not {l : List UInt8} {en : UInt8} {k : Nat} (hk : k < l.length) (h : ∀ x ∈ l.take k, x ≠ en) (h2 : l[k] ≠ en) : ∀ x ∈ l.take (k + 1), x ≠ en := by
  intro x hx
  rw [List.take_add_one, List.getElem?_eq_getElem hk] at hx
  rcases List.mem_append.1 hx with hx | hx
  · exact h x hx
  · rw [show (some l[k]).toList = [l[k]] from rfl] at hx
    rw [List.mem_singleton.1 hx]; exact h2
theorem rrRes_none {w w' : World} {b : Nat} {bad : Bool} {r : Option (Int × List UInt8)} {e : Ending} (hr : r = none) (he : e = .returned (.int .i64 0)) (h1 : Rr w' b [] true) (h2 : w.grownBy w' (some b)) : RrRes w b bad r e w' := by
  subst hr; exact ⟨he, h1, h2⟩
set_option maxRecDepth 100000 in
set_option maxHeartbeats 2000000 in
theorem aheadR_any (b : Nat) (l : List UInt8) (bad : Bool) (en : UInt8) (hen : 57 < en.toNat) (w : World) (h : Rr w b l bad) (hl : l.length ≤ 1000000000000) :
    Calls Tryd.prog 78 #[.pointer (some ⟨b, 0, none⟩), .int .u8 en.toNat] w (RrRes w b bad (numL l en (-9223372036854775808))) := by
  obtain ⟨c0, c1⟩ := blk2' h
  have f0 := h.frozen 0
  have hz := h.lt
  have hz2 : (bs l).size ≤ 1000000000000 := by rw [bs_size]; exact hl
  have hsz := hid (bs_size l)
  have Hen := hid hen
  clear hen
  go_enter Tryd.func78, Tryd.ntmps78
  go_wp2_with fail
  go_loop [5] (fun n => ∃ k : Nat, k ≤ (bs l).size ∧ k ≤ 21 ∧ n = .int .i64 k ∧ Hid (∀ x ∈ l.take k, x ≠ en)) (fun n => (bs l).size - (intOf n).toNat)
  case atStart => exact ⟨0, by omega, by omega, rfl, by simp [Hid]⟩
  case round =>
    obtain ⟨k, hk, hk21, rfl, hno⟩ := hrel
    by_cases hlt : k < (bs l).size
    · have hll : k < l.length := by rw [bs_size] at hlt; exact hlt
      have hge := hid (bs_get l k hll)
      have hst := hid (take_not hll hno.out)
      have hsm := hid (fun (v : Int) he hv hi hm => ahead_some (m := -9223372036854775808) (v := v) Hen.out hll he hv hi hm)
      have hnn := hid (fun he hb => ahead_no (m := -9223372036854775808) Hen.out hll he hno.out hb)
      rw [← hge.out] at hst hsm hnn
      by_cases hx : (bs l)[k] = en
      · have e1 : ((bs l)[k].toNat == en.toNat) = true := by rw [hx]; simp
        have e2 : (((bs l)[k].toNat : Int) == (en.toNat : Int)) = true := by rw [hx]; simp
        have hsm2 := hid (fun (v : Int) => hsm.out v hx)
        have hnn2 := hid (hnn.out hx)
        clear hst hsm hnn hge hno hx
        have hk2 : (k : Int) + 1 ≤ (bs l).size := by omega
        by_cases h21 : (k : Int) < 21
        all_goals
          go_wp2_with fail
          refine (backR_any _ _ (by rw [bs_extract, bs_size]; simp; omega)).mono ?_
          rw [show ((bs l).extract 0 k).data.toList = l.take k by rw [bs_extract]; simp [bs]]
          rintro e w1 ⟨hbr, hB⟩
          have h1 : Rr w1 b l bad := Blk.below h hB h.lt
          obtain ⟨d0, d1⟩ := blk2' h1
          have f1 := h1.frozen 0
          have hz1 := h1.lt
          rcases hbr with ⟨v, hv, hi, rfl⟩ | ⟨v, hv, hi, rfl⟩
          · have hr := hid (hsm2.out v hv hi hv.1)
            clear hsm2 hnn2 hi c0 c1
            go_wp2_with fail
            go_ret
            rw [hr.out]
            refine ⟨rfl, ?_, grown_trans (grown_below hB) (grown_set _ _ _ _)⟩
            have := Blk.set_ h1 0 (.string (bs (l.drop (k + 1))))
            have e : (bs l).extract (k + 1) (bs l).size = bs (l.drop (k + 1)) := by rw [bs_extract, bs_size, List.take_length]
            unfold Rr
            rw [← e] at this ⊢
            simpa using this
          · have hr := hid (hnn2.out hi)
            clear hsm2 hnn2 hi c0 c1
            go_wp2_with fail
            refine (failR_any b l bad _ h1).mono ?_
            rintro e w2 ⟨rfl, h2, hg⟩
            go_wp2_with fail
            go_ret
            exact rrRes_none hr.out rfl h2 (grown_trans (grown_below hB) hg)
      · have hxn : (bs l)[k].toNat ≠ en.toNat := fun h => hx (UInt8.toNat_inj.1 h)
        have e1 : ((bs l)[k].toNat == en.toNat) = false := by simpa using hxn
        have e2 : (((bs l)[k].toNat : Int) == (en.toNat : Int)) = false := by rw [beq_eq_false_iff_ne]; omega
        clear hxn
        have hst2 := hid (hst.out hx)
        clear hst hsm hnn hge hx
        by_cases h21 : (k : Int) < 21
        · go_wp2_with fail
          go_round
          case rel => exact ⟨k + 1, by omega, by omega, by go_num, hst2⟩
          case measure => simp [intOf]; omega
        · have hr := hid (ahead_none (m := -9223372036854775808) (l := l) (en := en) (by rw [show 21 = k by omega]; exact hno.out))
          go_wp2_with fail
          refine (failR_any b l bad _ h).mono ?_
          rintro e w2 ⟨rfl, h2, hg⟩
          go_wp2_with fail
          go_ret
          exact rrRes_none hr.out rfl h2 hg
    · have hr := hid (ahead_none (m := -9223372036854775808) (l := l) (en := en) (by
        have : l.take k = l := List.take_of_length_le (by rw [← bs_size]; omega)
        have hn := hno.out
        rw [this] at hn
        intro x hx
        exact hn x (List.mem_of_mem_take hx)))
      go_wp2_with fail
      refine (failR_any b l bad _ h).mono ?_
      rintro e w2 ⟨rfl, h2, hg⟩
      go_wp2_with fail
      go_ret
      exact rrRes_none hr.out rfl h2 hg
end Go.Proofs.YtappgjdnfllblaaDoor
namespace Go.Proofs.YtappgjdnfllblaaDoor
open Go.RowKit Go.IntWalk

theorem numL_zero (l : List UInt8) (en : UInt8) : numL l en 0 = match numL l en (-9223372036854775808) with
    | some (v, r) => if v < 0 then none else some (v, r)
    | none => none := by
  unfold numL
  split
  · rfl
  · cases h : Lib.atoiAll ((l.take 21).take (Lib.indexByte (l.take 21) en).toNat) with
    | ok v =>
      have hb := Lib.atoiAll_bounds h
      simp only
      by_cases h1 : Lib.itoa v = (l.take 21).take (Lib.indexByte (l.take 21) en).toNat
      · by_cases h2 : v < 0
        · rw [if_neg (by omega), if_pos ⟨h1, hb.1⟩]; simp [h2]
        · rw [if_pos ⟨h1, by omega⟩, if_pos ⟨h1, hb.1⟩]; simp [h2]
      · rw [if_neg (fun h => h1 h.1), if_neg (fun h => h1 h.1)]
    | _ => rfl
set_option maxRecDepth 100000 in
set_option maxHeartbeats 1000000 in
theorem numberR_any (b : Nat) (l : List UInt8) (bad : Bool) (en : UInt8) (hen : 57 < en.toNat) (w : World) (h : Rr w b l bad) (hl : l.length ≤ 1000000000000) :
    Calls Tryd.prog 81 #[.pointer (some ⟨b, 0, none⟩), .int .u8 en.toNat] w (RrRes w b bad (numL l en 0)) := by
  have H := hid (aheadR_any b l bad en hen w h hl)
  have hz := hid (numL_zero l en)
  cases hr : numL l en (-9223372036854775808) with
  | none =>
    rw [hr] at H hz
    go_enter Tryd.func81, Tryd.ntmps81
    go_wp2_with fail
    refine H.out.mono ?_
    rintro e w1 ⟨rfl, h1, hg⟩
    go_wp2_with fail
    go_ret
    exact rrRes_none hz.out rfl h1 hg
  | some x =>
    obtain ⟨v, r⟩ := x
    rw [hr] at H hz
    have hv := (numL_bd hr).bd
    clear hr
    by_cases hn : v < 0
    · have hz2 := hid (show numL l en 0 = none by rw [hz.out]; simp [hn])
      go_enter Tryd.func81, Tryd.ntmps81
      go_wp2_with fail
      refine H.out.mono ?_
      rintro e w1 ⟨rfl, h1, hg⟩
      go_wp2_with fail
      refine (failR_any _ _ _ _ h1).mono ?_
      rintro e w2 ⟨rfl, h2, hg2⟩
      go_wp2_with fail
      go_ret
      exact rrRes_none hz2.out rfl h2 (grown_trans hg hg2)
    · have hz2 := hid (show numL l en 0 = some (v, r) by rw [hz.out]; simp [hn])
      go_enter Tryd.func81, Tryd.ntmps81
      go_wp2_with fail
      refine H.out.mono ?_
      rintro e w1 ⟨rfl, h1, hg⟩
      go_wp2_with fail
      go_ret
      rw [hz2.out]
      exact ⟨rfl, h1, hg⟩
set_option maxRecDepth 100000 in
set_option maxHeartbeats 400000 in
theorem intRr_any (b : Nat) (l : List UInt8) (bad : Bool) (w : World) (h : Rr w b l bad) (hl : l.length ≤ 1000000000000) :
    Calls Tryd.prog 52 #[.pointer (some ⟨b, 0, none⟩)] w (RrRes w b bad (numL l 59 (-9223372036854775808))) := by
  have H := hid (aheadR_any b l bad 59 (by decide) w h hl)
  cases hr : numL l 59 (-9223372036854775808) with
  | none =>
    rw [hr] at H
    go_enter Tryd.func52, Tryd.ntmps52
    go_wp2_with fail
    refine H.out.mono ?_
    rintro e w1 ⟨rfl, h1, h2⟩
    go_wp2_with fail
    go_ret
    exact ⟨rfl, h1, h2⟩
  | some x =>
    obtain ⟨v, l'⟩ := x
    rw [hr] at H
    go_enter Tryd.func52, Tryd.ntmps52
    go_wp2_with fail
    refine H.out.mono ?_
    rintro e w1 ⟨rfl, h1, h2⟩
    go_wp2_with fail
    go_ret
    exact ⟨rfl, h1, h2⟩
def TrRes (w : World) (b : Nat) (r : Option (List UInt8 × List UInt8)) (e : Ending) (w' : World) : Prop :=
  match r with
  | some (s, l) => e = .returned (.string (bs s)) ∧ Rr w' b l false ∧ w.grownBy w' (some b)
  | none => e = .returned (.string ⟨#[]⟩) ∧ Rr w' b [] true ∧ w.grownBy w' (some b)
theorem trRes_none {w w' : World} {b : Nat} {r : Option (List UInt8 × List UInt8)} {e : Ending} (hr : r = none) (he : e = .returned (.string ⟨#[]⟩)) (h1 : Rr w' b [] true) (h2 : w.grownBy w' (some b)) : TrRes w b r e w' := by
  subst hr; exact ⟨he, h1, h2⟩
def LrI (w : World) (b : Nat) (r : Option (List Int × List UInt8)) (e : Ending) (w' : World) : Prop :=
  match r with
  | some (xs, l) => ∃ v, e = .returned v ∧ OwnI w' w.heap.size v xs ∧ Rr w' b l false ∧ w.grownBy w' (some b)
  | none => e = .returned (.slice none 0 0) ∧ Rr w' b [] true ∧ w.grownBy w' (some b)
set_option maxRecDepth 100000 in
set_option maxHeartbeats 2000000 in
theorem numsRr_any (b : Nat) (l : List UInt8) (bad : Bool) (w : World) (h : Rr w b l bad) (hbad : bad = true → l = []) (hl : l.length ≤ 1000000000000) :
    Calls Tryd.prog 58 #[.pointer (some ⟨b, 0, none⟩)] w (LrI w b (listL fI l)) := by
  have H := hid (numberR_any b l bad 91 (by decide) w h hl)
  cases hr : numL l 91 0 with
  | none =>
    rw [hr] at H
    have ht := hid (show listL fI l = none by rw [listL, hr])
    clear hr
    go_enter Tryd.func58, Tryd.ntmps58
    go_wp2_with fail
    refine H.out.mono ?_
    rintro e w1 ⟨rfl, h1, hg1⟩
    obtain ⟨d0, d1⟩ := blk2' h1
    go_wp2_with fail
    go_loopw [4, 5] (fun v n wr => v = .slice none 0 0 ∧ n = .int .i64 0 ∧ wr = w1) (fun _ _ _ => 0)
    case atStart => exact ⟨rfl, rfl, rfl⟩
    case round =>
      obtain ⟨rfl, rfl, rfl⟩ := hrel
      go_wp2_with fail
      go_ret
      rw [ht.out]
      exact ⟨rfl, h1, hg1⟩
  | some x =>
    obtain ⟨v, l1⟩ := x
    rw [hr] at H
    obtain ⟨hl1, hv⟩ := numL_shorter hr
    have hbd := (numL_bd hr).bd
    have hnb : bad = false := by
      cases bad with
      | false => rfl
      | true => rw [hbad rfl] at hr; simp [numL, Lib.indexByte] at hr
    subst hnb
    obtain ⟨N, rfl⟩ : ∃ n : Nat, v = n := ⟨v.toNat, by omega⟩
    have ht := hid (show listL fI l = (match itemsL fI N l1 with
      | none => none
      | some (xs, l2) => (cutL l2 93).map fun r => (xs, r)) by rw [listL, hr]; simp only [Int.toNat_natCast]; cases itemsL fI N l1 <;> rfl)
    have hbz := h.lt
    clear hr
    go_enter Tryd.func58, Tryd.ntmps58
    go_wp2_with fail
    refine H.out.mono ?_
    rintro e w1 ⟨rfl, h1, hg1⟩
    go_wp2_with fail
    go_loopw [4, 5] (fun v n wr => (∃ (k : Nat) (xs : List Int) (lc : List UInt8), n = .int .i64 k ∧ k ≤ N ∧ OwnI wr w.heap.size v xs ∧ Rr wr b lc false ∧ Hid (itemsL fI N l1 = (itemsL fI (N - k) lc).map fun r => (xs ++ r.1, r.2)) ∧ w.grownBy wr (some b) ∧ xs.length + lc.length ≤ 1000000000000) ∨ (∃ k : Nat, n = .int .i64 k ∧ k ≤ N ∧ Rr wr b [] true ∧ Hid (itemsL fI N l1 = none) ∧ w.grownBy wr (some b))) (fun _ n _ => N - (intOf n).toNat)
    case atStart => exact .inl ⟨0, [], l1, rfl, Nat.zero_le _, OwnI.nil _ _, h1, by simp [Hid], hg1, by simp; omega⟩
    case round =>
      clear h1 hg1 H
      rcases hrel with ⟨k, xs, lc, rfl, hkN, hown, hR, hit, hg, hlen⟩ | ⟨k, rfl, hkN, hR, hit, hg⟩
      · obtain ⟨c0, c1⟩ := blk2' hR
        by_cases hk : k < N
        · have hstep : N - k = (N - (k + 1)) + 1 := by omega
          have hIn := hid (intRr_any b lc false wr hR (by omega))
          cases hf : numL lc 59 (-9223372036854775808) with
          | none =>
            rw [hf] at hIn
            have hit2 := hid (show itemsL fI N l1 = none by rw [hit.out, hstep, itemsL]; simp only [fI, hf]; rfl)
            clear hf hit hstep
            go_wp2_with fail
            refine hIn.out.mono ?_
            rintro e w3 ⟨rfl, h3, hg3⟩
            have hown3 := hown.keptb hg3 hbz
            have hg4 := grown_trans hg hg3
            have hsz := hg4.size
            clear hIn hown hR c0 c1
            go_wp2_with (at_builtin; refine wp_appI _ rfl (.tmp 20) (.tmp 23) rfl w.heap.size _ xs rfl (hown3.alloc _) _ _ [0] rfl (cell1_newK _ _) (by simp; omega) (by simp; omega) ?_; intro v1 w5 ho1 hg5 hat1)
            have h5 : Rr w5 b [] true := Blk.grown (h3.alloc _) hg5 (fun e => by have := hown3.row b e.symm; omega)
            have hg6 := grown_far (grown_trans hg4 (grown_below ((Below.refl _ w3).alloc (Nat.le_refl _) _))) hg5 hown3.row
            go_wp2_with fail
            go_roundw
            case rel => exact .inr ⟨k + 1, by go_num, by omega, h5, hit2, hg6⟩
            case measure => (try simp [intOf]) <;> (try omega)
          | some y =>
            obtain ⟨z, lr⟩ := y
            rw [hf] at hIn
            have hless := numL_less hf
            have hit2 := hid (show itemsL fI N l1 = (itemsL fI (N - (k + 1)) lr).map fun r => ((xs ++ [z]) ++ r.1, r.2) by rw [hit.out, hstep, itemsL]; simp only [fI, hf, Option.map_map]; congr 1; funext r; simp)
            clear hf hit hstep
            go_wp2_with fail
            refine hIn.out.mono ?_
            rintro e w3 ⟨rfl, h3, hg3⟩
            have hown3 := hown.keptb hg3 hbz
            have hg4 := grown_trans hg hg3
            have hsz := hg4.size
            clear hIn hown hR c0 c1
            go_wp2_with (at_builtin; refine wp_appI _ rfl (.tmp 20) (.tmp 23) rfl w.heap.size _ xs rfl (hown3.alloc _) _ _ [z] rfl (cell1_newK _ _) (by simp; omega) (by simp; omega) ?_; intro v1 w5 ho1 hg5 hat1)
            have h5 : Rr w5 b lr false := Blk.grown (h3.alloc _) hg5 (fun e => by have := hown3.row b e.symm; omega)
            have hg6 := grown_far (grown_trans hg4 (grown_below ((Below.refl _ w3).alloc (Nat.le_refl _) _))) hg5 hown3.row
            go_wp2_with fail
            go_roundw
            case rel => exact .inl ⟨k + 1, xs ++ [z], lr, by go_num, by omega, ho1, h5, hit2, hg6, by simp; omega⟩
            case measure => (try simp [intOf]) <;> (try omega)
        · obtain rfl : k = N := by omega
          have hit2 : itemsL fI k l1 = some (xs, lc) := by rw [hit.out, Nat.sub_self]; simp [itemsL]
          clear hit
          have hcl := hid (closeR_any b lc false 93 wr hR (by omega))
          cases hc : cutL lc 93 with
          | none =>
            have ht2 := hid (show listL fI l = none by rw [ht.out, hit2]; simp [hc])
            rw [hc] at hcl
            clear hit2 hc
            go_wp2_with fail
            refine hcl.out.mono ?_
            rintro e w3 ⟨rfl, hg2, h3⟩
            clear c0 c1
            go_wp2_with fail
            go_ret
            rw [ht2.out]
            exact ⟨rfl, h3, grown_trans hg hg2⟩
          | some r =>
            have ht2 := hid (show listL fI l = some (xs, r) by rw [ht.out, hit2]; simp [hc])
            rw [hc] at hcl
            clear hit2 hc
            go_wp2_with fail
            refine hcl.out.mono ?_
            rintro e w3 ⟨rfl, hg2, h3⟩
            clear c0 c1
            go_wp2_with fail
            go_ret
            rw [ht2.out]
            exact ⟨_, rfl, hown.keptb hg2 hbz, h3, grown_trans hg hg2⟩
      · obtain ⟨c0, c1⟩ := blk2' hR
        have ht2 := hid (show listL fI l = none by rw [ht.out, hit.out])
        by_cases hk : (k : Int) < N
        all_goals
          go_wp2_with fail
          go_ret
          rw [ht2.out]
          exact ⟨rfl, hR, hg⟩
def LrS (w : World) (b : Nat) (r : Option (List (List UInt8) × List UInt8)) (e : Ending) (w' : World) : Prop :=
  match r with
  | some (xs, l) => ∃ v, e = .returned v ∧ OwnS w' w.heap.size v xs ∧ Rr w' b l false ∧ w.grownBy w' (some b)
  | none => e = .returned (.slice none 0 0) ∧ Rr w' b [] true ∧ w.grownBy w' (some b)
end Go.Proofs.YtappgjdnfllblaaDoor
namespace Go.Proofs.YtappgjdnfllblaaDoor
open Go.RowKit Go.IntWalk

theorem int_ur (l : List UInt8) (bad : Bool) (hl : l.length ≤ 1000000000000) : ∃ (v : Int) (l' : List UInt8) (bad' : Bool), I64 v ∧ l'.length ≤ l.length ∧
    (∀ (b : Nat) (W : World), Rr W b l bad → Calls Tryd.prog 52 #[.pointer (some ⟨b, 0, none⟩)] W fun e w' => e = .returned (.int .i64 v) ∧ Rr w' b l' bad' ∧ W.grownBy w' (some b)) ∧
    ((fI l = some (v, l') ∧ bad' = bad) ∨ (fI l = none ∧ v = 0 ∧ l' = [] ∧ bad' = true)) := by
  cases hr : numL l 59 (-9223372036854775808) with
  | none =>
    refine ⟨0, [], true, by simp [I64], by simp, fun b W h => ?_, .inr ⟨hr, rfl, rfl, rfl⟩⟩
    have := intRr_any b l bad W h hl
    rw [hr] at this
    exact this
  | some x =>
    obtain ⟨v, l'⟩ := x
    refine ⟨v, l', bad, numL_bd hr, (numL_shorter hr).1, fun b W h => ?_, .inl ⟨hr, rfl⟩⟩
    have := intRr_any b l bad W h hl
    rw [hr] at this
    exact this
end Go.Proofs.YtappgjdnfllblaaDoor
namespace Go.Proofs.YtappgjdnfllblaaDoor
open Go.RowKit Go.IntWalk

theorem rrInt_f (s : RS) (hl : s.1.length ≤ 1000000000000) (b : Nat) (W : World) (h : Rr W b s.1 s.2) :
    Calls Tryd.prog 52 #[.pointer (some ⟨b, 0, none⟩)] W fun e w' => e = .returned (.int .i64 (rI s).1) ∧ Rr w' b (rI s).2.1 (rI s).2.2 ∧ W.grownBy w' (some b) := by
  have := intRr_any b s.1 s.2 W h hl
  unfold rI
  cases hr : numL s.1 59 (-9223372036854775808) with
  | none => rw [hr] at this; exact this
  | some x => obtain ⟨v, l'⟩ := x; rw [hr] at this; exact this
/-! ### What is read without failing -/
theorem rN_split {s : RS} (h : (rN s).2.2 = false) : s.2 = false ∧ s.1 = encI (rN s).1 ++ (rN s).2.1 := by
  unfold rN at h ⊢
  split at h
  · rename_i v l hn
    simp only [hn]
    refine ⟨h, ?_⟩
    have := numL_split hn
    rw [this]; simp [encI]
  · cases h
theorem rI_split {s : RS} (h : (rI s).2.2 = false) : s.2 = false ∧ s.1 = encI (rI s).1 ++ (rI s).2.1 := by
  unfold rI at h ⊢
  split at h
  · rename_i v l hn
    simp only [hn]
    refine ⟨h, ?_⟩
    have := numL_split hn
    rw [this]; simp [encI]
  · cases h
theorem rT_split {s : RS} (h : (rT s).2.2 = false) : s.2 = false ∧ s.1 = encT (rT s).1 ++ (rT s).2.1 := by
  unfold rT at h ⊢
  split at h
  · rename_i v l hn
    simp only [hn]
    exact ⟨h, textL_split hn⟩
  · cases h
theorem r3_split {s : RS} (h : (r3 s).2.2 = false) : s.2 = false ∧ s.1 = enc3 (r3 s).1 ++ (r3 s).2.1 := by
  unfold r3 at h ⊢
  simp only at h ⊢
  obtain ⟨h1, e1⟩ := rI_split h
  obtain ⟨h2, e2⟩ := rI_split h1
  obtain ⟨h3, e3⟩ := rI_split h2
  refine ⟨h3, ?_⟩
  unfold enc3
  simp only
  rw [List.append_assoc, List.append_assoc, ← e1, ← e2, ← e3]
theorem rWhile_split {α : Type} {f : RS → α × RS} {enc : α → List UInt8} (hf : ∀ s, (f s).2.2 = false → s.2 = false ∧ s.1 = enc (f s).1 ++ (f s).2.1) : ∀ (n : Nat) (s : RS), (rWhile f n s).2.2 = false → s.2 = false ∧ s.1 = ((rWhile f n s).1.map enc).flatten ++ (rWhile f n s).2.1
  | 0, s, h => by simp [rWhile] at h ⊢; exact h
  | n + 1, s, h => by
    unfold rWhile at h ⊢
    split at h
    · rename_i h0; rw [if_pos h0]; exact ⟨h, by simp⟩
    · rename_i h0
      rw [if_neg h0]
      simp only at h ⊢
      obtain ⟨h1, e1⟩ := rWhile_split hf n _ h
      obtain ⟨h2, e2⟩ := hf _ h1
      refine ⟨h2, ?_⟩
      rw [List.map_cons, List.flatten_cons, List.append_assoc, ← e1, ← e2]
theorem rWhile_map {α β : Type} (f : RS → α × RS) (g : α → β) : ∀ (n : Nat) (s : RS), rWhile (fun s => (g (f s).1, (f s).2)) n s = ((rWhile f n s).1.map g, (rWhile f n s).2)
  | 0, _ => rfl
  | n + 1, s => by
    unfold rWhile
    split
    · rfl
    · simp only [rWhile_map f g n, List.map_cons]
end Go.Proofs.YtappgjdnfllblaaDoor
