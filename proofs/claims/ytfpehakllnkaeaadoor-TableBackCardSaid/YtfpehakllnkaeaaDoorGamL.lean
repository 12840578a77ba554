
/- Game: ranks by positions and moves; rows of a strategy table in memory. -/
import Derived.Test.YtfpehakllnkaeaaDoorGamEb
import Derived.Test.YtfpehakllnkaeaaDoorGamD
import Derived.Test.YtfpehakllnkaeaaDoorGamK
set_option linter.unusedSimpArgs false
set_option linter.unusedVariables false
namespace Go.Proofs.YtfpehakllnkaeaaDoor
open Go.RowKit Go.IntWalk Go.Shelf

theorem mem_flatF : ∀ (l : List (List Mv)) (k p : Nat) (hp : p < l.length) (x : Mv), x ∈ l[p] → mvN (k + p) x ∈ flatF k l
  | a :: l, k, 0, _, x, hx => by rw [flatF, List.mem_append]; exact .inl (List.mem_map.2 ⟨x, hx, rfl⟩)
  | a :: l, k, p + 1, hp, x, hx => by
    rw [flatF, List.mem_append]
    have := mem_flatF l (k + 1) p (by simpa using hp) x (by simpa using hx)
    rw [show k + (p + 1) = k + 1 + p by omega]
    exact .inr this
theorem flatF_iff (l : List (List Mv)) (m : Nat × List Nat) : m ∈ flatF 0 l ↔ ∃ p x, x ∈ l.getD p [] ∧ m = mvN p x := by
  constructor
  · intro h
    obtain ⟨p, x, _, h2, h3, rfl⟩ := flatF_mem l 0 m h
    exact ⟨p, x, by simpa using h3, rfl⟩
  · rintro ⟨p, x, hx, rfl⟩
    have hp : p < l.length := by
      rcases Nat.lt_or_ge p l.length with h | h
      · exact h
      · simp [List.getD, List.getElem?_eq_none h] at hx
    have := mem_flatF l 0 p hp x (by simpa [List.getD, hp] using hx)
    simpa using this
/-- The ranks of a game, by its positions and moves. -/
structure Rk (g : Gm) (R : List Int) : Prop where
  len : R.length = g.1.length
  lo : ∀ q, q < g.1.length → -1 ≤ R.getD q 0
  zero : ∀ q, q < g.1.length → (R.getD q 0 = 0 ↔ g.1.getD q false = true)
  up : ∀ q, q < g.1.length → 1 ≤ R.getD q 0 → ∃ m ∈ g.2.getD q [], ∀ t ∈ m.2, 0 ≤ R.getD t.toNat 0 ∧ R.getD t.toNat 0 ≤ R.getD q 0 - 1
  dn : ∀ q, q < g.1.length → 1 ≤ R.getD q 0 → ∀ m ∈ g.2.getD q [], ∃ t ∈ m.2, R.getD t.toNat 0 < 0 ∨ R.getD q 0 - 1 ≤ R.getD t.toNat 0
  all : ∀ q, ∀ m ∈ g.2.getD q [], (∀ t ∈ m.2, 0 ≤ R.getD t.toNat 0) → 0 ≤ R.getD q 0
theorem rk_iff (g : Gm) (R : List Int) : IsRk g.1 (flatF 0 g.2) R ↔ Rk g R := by
  constructor
  · intro h
    refine ⟨h.len, h.lo, h.zero, fun q hq h1 => ?_, fun q hq h1 m hm => ?_, fun q m hm ht => ?_⟩
    · obtain ⟨m, hm, rfl, ht⟩ := h.up q hq h1
      obtain ⟨p, x, hx, rfl⟩ := (flatF_iff _ _).1 hm
      exact ⟨x, hx, fun t h' => ht t.toNat (List.mem_map.2 ⟨t, h', rfl⟩)⟩
    · obtain ⟨t, ht, h2⟩ := h.dn q hq h1 (mvN q m) ((flatF_iff _ _).2 ⟨q, m, hm, rfl⟩) rfl
      obtain ⟨y, hy, rfl⟩ := List.mem_map.1 ht
      exact ⟨y, hy, h2⟩
    · refine h.all (mvN q m) ((flatF_iff _ _).2 ⟨q, m, hm, rfl⟩) (fun t h' => ?_)
      obtain ⟨y, hy, rfl⟩ := List.mem_map.1 h'
      exact ht y hy
  · intro h
    refine ⟨h.len, h.lo, h.zero, fun q hq h1 => ?_, fun q hq h1 m hm he => ?_, fun m hm ht => ?_⟩
    · obtain ⟨m, hm, ht⟩ := h.up q hq h1
      refine ⟨mvN q m, (flatF_iff _ _).2 ⟨q, m, hm, rfl⟩, rfl, fun t h' => ?_⟩
      obtain ⟨y, hy, rfl⟩ := List.mem_map.1 h'
      exact ht y hy
    · obtain ⟨p, x, hx, rfl⟩ := (flatF_iff _ _).1 hm
      simp only at he
      subst he
      obtain ⟨t, ht, h2⟩ := h.dn p hq h1 x hx
      exact ⟨t.toNat, List.mem_map.2 ⟨t, ht, rfl⟩, h2⟩
    · obtain ⟨p, x, hx, rfl⟩ := (flatF_iff _ _).1 hm
      exact h.all p x hx (fun t h' => ht t.toNat (List.mem_map.2 ⟨t, h', rfl⟩))
theorem rankL_rk {g : Gm} (hg : GmOK g) : Rk g (rankL g) := (rk_iff _ _).1 (rankL_is hg.n hg.fm)
theorem Rk.uniq {g : Gm} (hg : GmOK g) {R S : List Int} (h : Rk g R) (h' : Rk g S) : R = S := IsRk.uniq hg.fm ((rk_iff _ _).2 h) ((rk_iff _ _).2 h')
theorem Rk.eq {g : Gm} (hg : GmOK g) {R : List Int} (h : Rk g R) : R = rankL g := h.uniq hg (rankL_rk hg)
/-! ### Rows -/
abbrev Row := Int × Int × Int
def rcs (l : List Row) : List Value := l.flatMap fun x => [.int .i64 x.1, .int .i64 x.2.1, .int .i64 x.2.2]
theorem rcs_len (l : List Row) : (rcs l).length = l.length * 3 := by induction l with | nil => rfl | cons a l ih => simp [rcs, List.flatMap_cons] at ih ⊢; omega
theorem rcs_app (a b : List Row) : rcs (a ++ b) = rcs a ++ rcs b := by simp [rcs]
theorem rcs_at : ∀ (l : List Row) (k : Nat) (hk : k < l.length), (rcs l)[k * 3]? = some (.int .i64 l[k].1) ∧ (rcs l)[k * 3 + 1]? = some (.int .i64 l[k].2.1) ∧ (rcs l)[k * 3 + 2]? = some (.int .i64 l[k].2.2)
  | x :: l, 0, _ => by simp [rcs]
  | x :: l, k + 1, hk => by
    have := rcs_at l k (by simpa using hk)
    have e : rcs (x :: l) = .int .i64 x.1 :: .int .i64 x.2.1 :: .int .i64 x.2.2 :: rcs l := rfl
    rw [e, show (k + 1) * 3 = k * 3 + 3 by omega]
    simpa using this
theorem infoRow : (Tryd.prog.info? 87).map (fun i => (i.zero, i.size, i.bytes)) = some (some (.agg #[.int .i64 0, .int .i64 0, .int .i64 0]), 3, 24) := by kernel_rfl
def OwnR (w : World) (base : Nat) (v : Value) (l : List Row) : Prop := w.ownsRow base 87 3 v l.length (rcs l)
theorem OwnR.nil (w : World) (base : Nat) : OwnR w base (.slice none 0 0) [] := ⟨rfl, .inl ⟨rfl, rfl⟩⟩
theorem OwnR.below {w w' : World} {base : Nat} {v : Value} {l : List Row} (h : OwnR w base v l) (hb : Below w.heap.size w w') : OwnR w' base v l := by
  refine ⟨h.1, ?_⟩
  rcases h.2 with h0 | ⟨g, cap, cur, hv, hg, hh, r⟩
  · exact .inl h0
  · exact .inr ⟨g, cap, cur, hv, hg, (hb.block g (Array.getElem?_eq_some_iff.1 hh).1).trans hh, r⟩
def RowI (x : Row) : Prop := I64 x.1 ∧ I64 x.2.1 ∧ I64 x.2.2
theorem OwnR.slr {w : World} {base : Nat} {v : Value} {l : List Row} (h : OwnR w base v l) (hi : ∀ x ∈ l, RowI x) : ∃ A c, v = .slice A l.length c ∧ l.length ≤ c ∧ c ≤ maxLen ∧ SlR w w.heap.size A l := by
  rcases h.2 with ⟨hv, hn⟩ | ⟨g, cap, cur, hv, _, hb, hc, hm, hs, ht⟩
  · have : l = [] := List.eq_nil_of_length_eq_zero hn
    subst this
    exact ⟨none, 0, hv, Nat.le_refl _, Nat.zero_le _, SlR.nil⟩
  · refine ⟨some ⟨g, 0, none⟩, cap, hv, hc, hm, fun k x hx => ?_⟩
    obtain ⟨hk, rfl⟩ := List.getElem?_eq_some_iff.1 hx
    have hb' : Blk w g 87 cur := hb
    obtain ⟨r0, r1, r2⟩ := rcs_at l k hk
    have hcur : ∀ j, j < l.length * 3 → cur[j]? = (rcs l)[j]? := fun j hj => by
      rw [← ht]
      have e : cur[j]? = cur.toList[j]? := by simp
      rw [e, List.getElem?_take_of_lt (by omega)]
    obtain ⟨i0, i1, i2⟩ := hi _ (List.getElem_mem hk)
    refine ⟨g, 0, [.int .i64 l[k].1, .int .i64 l[k].2.1, .int .i64 l[k].2.2], rfl, hb'.lt, rfl, fun j u hu => ?_, [.int .i64 l[k].1], [.int .i64 l[k].2.1, .int .i64 l[k].2.2], rfl, rfl, rfl, ⟨rfl, i0⟩, [.int .i64 l[k].2.1], [.int .i64 l[k].2.2], rfl, rfl, rfl, ⟨rfl, i1⟩, rfl, i2⟩
    have h3 : Rep.size Row = 3 := rfl
    rw [h3, hb'.cell]
    match j, hu with
    | 0, hu => simp at hu; subst hu; rw [hcur _ (by omega)]; simpa using r0
    | 1, hu => simp at hu; subst hu; rw [hcur _ (by omega)]; simpa using r1
    | 2, hu => simp at hu; subst hu; rw [hcur _ (by omega)]; simpa using r2
    | j + 3, hu => simp at hu
theorem SlR.row {w : World} {B : Nat} {A : Option Addr} {l : List Row} (h : SlR w B A l) {k : Nat} (hk : k < l.length) : ∃ b off, A = some ⟨b, off, none⟩ ∧ b < B ∧
    w.cell? ⟨b, off + k * 3, none⟩ = some (.int .i64 l[k].1) ∧ w.cell? ⟨b, off + k * 3 + 1, none⟩ = some (.int .i64 l[k].2.1) ∧ w.cell? ⟨b, off + k * 3 + 2, none⟩ = some (.int .i64 l[k].2.2) ∧ RowI l[k] := by
  obtain ⟨b, off, es, hA, hb, hs, hc, e1, e2, rfl, _, _, ⟨rfl, i0⟩, e3, e4, rfl, _, _, ⟨rfl, i1⟩, ⟨rfl, i2⟩⟩ := h k _ (List.getElem?_eq_getElem hk)
  have h4 : Rep.size Row = 3 := rfl
  rw [h4] at hc
  exact ⟨b, off, hA, hb, by simpa using hc 0 _ rfl, by simpa using hc 1 _ rfl, by simpa using hc 2 _ rfl, i0, i1, i2⟩
section
variable {ops : Array Oper} {rest : List Oper} {o : Oper} {a : Act} {Q : Exit → Act → World → Prop}
theorem wp_appRow (w : World) (hgd : o.guard = none) (s x : Operand) (ho : o.op = .call { callee := .builtin .append, args := #[s, x], argTypes := #[35, 35] })
    (base : Nat) (v : Value) (l : List Row) (hs : a.eval s = v) (hown : OwnR w base v l) (B c : Nat) (y : Row) (hx : a.eval x = .slice (some ⟨B, 0, none⟩) 1 c) (hb : Blk w B 87 #[.int .i64 y.1, .int .i64 y.2.1, .int .i64 y.2.2]) (hlen : l.length ≤ 1000000) (hbase : base ≤ w.heap.size)
    (h : ∀ v' w', OwnR w' base v' (l ++ [y]) → w.grownBy w' v.ownBlock → wpList Tryd.prog ops Q rest (a.put o.dst v') w') : wpList Tryd.prog ops Q (o :: rest) a w := by
  obtain ⟨i0, hi, hz0, hz1, hz2⟩ := info_parts infoRow
  refine wpList_append_own_at w hgd s x 35 ho base 87 i0 _ 3 24 Tryd.underlying35 hi hz0 hz1 hz2 rfl (by omega) v l.length _ hs hown ⟨B, 0, none⟩ 1 c [.int .i64 y.1, .int .i64 y.2.1, .int .i64 y.2.2] hx (by simp) (fun j u hu => World.news_of_block (show w.heap[B]? = _ from hb) j u (by simpa using hu)) (by simp [Value.oneCell']) (by unfold maxLen; omega) (by omega) hbase ?_
  intro v' w' h1 h2 _ _
  refine h v' w' ?_ h2
  unfold OwnR
  rw [List.length_append, rcs_app]
  exact h1
end
end Go.Proofs.YtfpehakllnkaeaaDoor
