
/- Wire: the reader's lists of strings. -/
import Derived.Test.YtbefmjodpndndaaDoorWireK
set_option linter.unusedSimpArgs false
set_option linter.unusedVariables false
namespace Go.Proofs.YtbefmjodpndndaaDoor
open Go.RowKit Go.IntWalk

theorem infoStr : (Tryd.prog.info? 9).map (fun i => (i.zero, i.size, i.bytes)) = some (some (.string ⟨#[]⟩), 1, 16) := by kernel_rfl
def vS (s : List UInt8) : Value := .string (bs s)
/-- v is a slice of the call's own (blocks from base on) that holds the strings. -/
def OwnS (w : World) (base : Nat) (v : Value) (l : List (List UInt8)) : Prop := w.ownsRow base 9 1 v l.length (l.map vS)
theorem OwnS.nil (w : World) (base : Nat) : OwnS w base (.slice none 0 0) [] := ⟨rfl, .inl ⟨rfl, rfl⟩⟩
theorem OwnS.slr {w : World} {base : Nat} {v : Value} {l : List (List UInt8)} (h : OwnS w base v l) (hi : ∀ x ∈ l, x.length ≤ maxLen) : ∃ A c, v = .slice A l.length c ∧ l.length ≤ c ∧ c ≤ maxLen ∧ SlR w w.heap.size A (l.map bs) := by
  rcases h.2 with ⟨hv, hn⟩ | ⟨g, cap, cur, hv, _, hb, hc, hm, _⟩
  · have : l = [] := List.eq_nil_of_length_eq_zero hn
    subst this
    exact ⟨none, 0, hv, Nat.le_refl _, Nat.zero_le _, SlR.nil⟩
  · refine ⟨some ⟨g, 0, none⟩, cap, hv, hc, hm, fun k x hx => ⟨g, 0, [.string x], rfl, (Array.getElem?_eq_some_iff.1 hb).1, rfl, fun j u hu => ?_, rfl, ?_⟩⟩
    · match j, hu with
      | 0, hu =>
        simp only [List.getElem?_cons_zero, Option.some.injEq] at hu
        subst hu
        have hh := h
        unfold OwnS at hh
        rw [hv] at hh
        rw [List.getElem?_map] at hx
        have hk : k < l.length := by
          rcases Nat.lt_or_ge k l.length with h | h
          · exact h
          · rw [List.getElem?_eq_none h] at hx; cases hx
        have := hh.cellAt k (by omega)
        rw [List.getElem?_eq_getElem hk] at hx
        simp only [Option.map_some, Option.some.injEq] at hx
        subst hx
        simpa [Rep.size, hk, vS] using this
      | j+1, hu => simp at hu
    · obtain ⟨y, hy, rfl⟩ := List.mem_map.1 (List.mem_of_getElem? hx)
      rw [bs_size]
      exact hi y hy
theorem OwnS.keep {w w' : World} {base : Nat} {v : Value} {l : List (List UInt8)} (h : OwnS w base v l) (hk : ∀ k, k < w.heap.size → w'.heap[k]? = w.heap[k]?) : OwnS w' base v l := by
  refine ⟨h.1, ?_⟩
  rcases h.2 with h0 | ⟨g, cap, cur, hv, hg, hb, r⟩
  · exact .inl h0
  · exact .inr ⟨g, cap, cur, hv, hg, (hk g (Array.getElem?_eq_some_iff.1 hb).1).trans hb, r⟩
theorem OwnS.below {w w' : World} {base : Nat} {v : Value} {l : List (List UInt8)} (h : OwnS w base v l) (hb : Below w.heap.size w w') : OwnS w' base v l := h.keep hb.block
theorem OwnS.alloc {w : World} {base : Nat} {v : Value} {l : List (List UInt8)} (h : OwnS w base v l) (o : Obj) : OwnS (w.alloc o) base v l := h.below ((Below.refl _ _).alloc (Nat.le_refl _) o)
theorem OwnS.drew {w : World} {base : Nat} {v : Value} {l : List (List UInt8)} (h : OwnS w base v l) : OwnS w.drew base v l := h
section
variable {ops : Array Oper} {rest : List Oper} {o : Oper} {a : Act} {Q : Exit → Act → World → Prop}
/-- 'append(s, x...)' for strings: s of the call's own, the cells of x known. -/
theorem wp_appS (w : World) (hgd : o.guard = none) (s x : Operand) (ho : o.op = .call { callee := .builtin .append, args := #[s, x], argTypes := #[36, 36] })
    (base : Nat) (v : Value) (l : List (List UInt8)) (hs : a.eval s = v) (hown : OwnS w base v l) (ad : Addr) (c : Nat) (ys : List (List UInt8)) (hx : a.eval x = .slice (some ad) ys.length c)
    (hcell : ∀ (j : Nat) (u : Value), (ys.map vS)[j]? = some u → w.cell? (ad.add j) = some u) (hlen : l.length + ys.length ≤ 8796093022208) (hbase : base ≤ w.heap.size)
    (h : ∀ v' w', OwnS w' base v' (l ++ ys) → w.grownBy w' v.ownBlock → (v'.ownBlock = v.ownBlock ∨ v'.ownBlock = some w.heap.size) → wpList Tryd.prog ops Q rest (a.put o.dst v') w') : wpList Tryd.prog ops Q (o :: rest) a w := by
  obtain ⟨i0, hi, hz0, hz1, hz2⟩ := info_parts infoStr
  refine wpList_append_own_at w hgd s x 36 ho base 9 i0 _ 1 16 Tryd.underlying36 hi hz0 hz1 hz2 rfl (by omega) v l.length _ hs hown ad ys.length c (ys.map vS) hx (by simp) hcell (by intro y hy; obtain ⟨z, _, rfl⟩ := List.mem_map.1 hy; simp [vS, Value.oneCell']) (by unfold maxLen; omega) (by omega) hbase ?_
  intro v' w' h1 h2 _ h4
  refine h v' w' ?_ h2 h4
  unfold OwnS
  rw [List.length_append, List.map_append]
  exact h1
end
theorem cell1_newS (W : World) (x : List UInt8) : ∀ (j : Nat) (u : Value), ([x].map vS)[j]? = some u → (W.alloc (Obj.cells #[.string (bs x)] 9)).cell? ((⟨W.heap.size, 0, none⟩ : Addr).add j) = some u := by
  intro j u hu
  match j, hu with
  | 0, hu => simp at hu; subst hu; simp [Addr.add, go_sem, vS]
  | j + 1, hu => simp at hu
theorem cell1_newE (W : World) : ∀ (j : Nat) (u : Value), ([[]].map vS)[j]? = some u → (W.alloc (Obj.cells #[.string ⟨#[]⟩] 9)).cell? ((⟨W.heap.size, 0, none⟩ : Addr).add j) = some u := cell1_newS W []
theorem cutL_less {l r : List UInt8} {c : UInt8} (h : cutL l c = some r) : r.length < l.length := by
  cases l with
  | nil => simp [cutL] at h
  | cons x t =>
    simp only [cutL] at h
    split at h
    · injection h with h; subst h; simp
    · cases h
theorem textL_less {l : List UInt8} {s r : List UInt8} (h : textL l = some (s, r)) : r.length < l.length ∧ s.length ≤ l.length := by
  unfold textL at h
  split at h
  · cases h
  · rename_i n l1 hn
    have h1 := numL_less hn
    split at h
    · cases h
    · cases hc : cutL (l1.drop n.toNat) 44 with
      | none => rw [hc] at h; cases h
      | some q =>
        rw [hc] at h
        simp only [Option.map_some, Option.some.injEq, Prod.mk.injEq] at h
        obtain ⟨rfl, rfl⟩ := h
        have h2 := cutL_less hc
        simp only [List.length_drop] at h2
        simp only [List.length_take]
        omega
theorem OwnS.keptb {w w' : World} {base b : Nat} {v : Value} {l : List (List UInt8)} (h : OwnS w base v l) (hg : w.grownBy w' (some b)) (hb : b < base) : OwnS w' base v l := by
  refine ⟨h.1, ?_⟩
  rcases h.2 with h0 | ⟨g, cap, cur, hv, hgb, hbk, r⟩
  · exact .inl h0
  · exact .inr ⟨g, cap, cur, hv, hgb, (hg.block g (Array.getElem?_eq_some_iff.1 hbk).1 (by intro e; injection e with e; omega)).trans hbk, r⟩
theorem OwnS.row {w : World} {base : Nat} {v : Value} {l : List (List UInt8)} (h : OwnS w base v l) : ∀ k, v.ownBlock = some k → base ≤ k := by
  intro k hk
  rcases h.2 with ⟨rfl, _⟩ | ⟨g, cap, cur, rfl, hgb, _⟩
  · simp [Value.ownBlock] at hk
  · have : g = k := by simpa [Value.ownBlock] using hk
    omega
/-- A list's result. -/
def LsRes (w : World) (b : Nat) (r : Option (List (List UInt8) × List UInt8)) (e : Ending) (w' : World) : Prop :=
  match r with
  | some (xs, l) => ∃ v, e = .returned v ∧ OwnS w' w.heap.size v xs ∧ Rd w' b l false ∧ w.grownBy w' (some b)
  | none => e = .returned (.slice none 0 0) ∧ Rd w' b [] true ∧ w.grownBy w' (some b)

end Go.Proofs.YtbefmjodpndndaaDoor
