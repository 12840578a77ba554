
/- Game: a game of the call's own in memory, which may be changed: words for clone, GameMore, GameApart. -/
import Derived.Test.YtiaplhdgchbkkaaGamSq
set_option linter.unusedSimpArgs false
set_option linter.unusedVariables false
namespace Go.Proofs.Ytiaplhdgchbkkaa
open Go.RowKit Go.IntWalk Go.Shelf

/-- Whole blocks of these types are as they were. -/
def KT (ts : List TypeId) (w w' : World) : Prop := ∀ g t cs, t ∈ ts → Blk w g t cs → Blk w' g t cs
theorem KT.refl (ts : List TypeId) (w : World) : KT ts w w := fun _ _ _ _ h => h
theorem KT.trans {ts : List TypeId} {a b c : World} (h : KT ts a b) (h' : KT ts b c) : KT ts a c := fun g t cs ht hb => h' g t cs ht (h g t cs ht hb)
theorem KT.of_below {ts : List TypeId} {w w' : World} (h : Below w.heap.size w w') : KT ts w w' := fun _ _ _ _ hb => hb.below h hb.lt
theorem KT.of_grown {ts : List TypeId} {w w' : World} {row : Option Nat} (h : w.grownBy w' row) (hr : ∀ g, row = some g → ∃ t cs, Blk w g t cs ∧ t ∉ ts) : KT ts w w' := fun g t cs ht hb => hb.grown h (fun e => by
  obtain ⟨t', cs', hb', hn⟩ := hr g e.symm
  have he : t = t' := Classical.byContradiction fun hne => Blk.ne_ hb hb' hne rfl
  exact hn (he ▸ ht))
theorem KT.of_set {ts : List TypeId} {w : World} {g i : Nat} {t : TypeId} {cs : Array Value} (h : Blk w g t cs) (ht : t ∉ ts) (u : Value) : KT ts w (w.setCell ⟨g, i, none⟩ u) :=
  KT.of_grown (gr_set w g i u) (fun g' e => by injection e with e; subst e; exact ⟨t, cs, h, ht⟩)
/-- A row of the call's own: kept, when its block is. -/
theorem own_kept {w w' : World} {base : Nat} {e : TypeId} {size n : Nat} {v : Value} {xs : List Value} (h : w.ownsRow base e size v n xs) (hk : ∀ g cs, v.ownBlock = some g → Blk w g e cs → Blk w' g e cs) : w'.ownsRow base e size v n xs := by
  refine ⟨h.1, ?_⟩
  rcases h.2 with h0 | ⟨g, cap, cur, hv, hg, hh, r⟩
  · exact .inl h0
  · exact .inr ⟨g, cap, cur, hv, hg, hk g cur (by rw [hv]; rfl) hh, r⟩
theorem own_kt {ts : List TypeId} {w w' : World} {base : Nat} {e : TypeId} {size n : Nat} {v : Value} {xs : List Value} (h : w.ownsRow base e size v n xs) (hk : KT ts w w') (ht : e ∈ ts) : w'.ownsRow base e size v n xs :=
  own_kept h (fun g cs _ hb => hk g e cs ht hb)
theorem own_base {w : World} {base base' : Nat} {e : TypeId} {size n : Nat} {v : Value} {xs : List Value} (h : w.ownsRow base e size v n xs) (hb : base' ≤ base) : w.ownsRow base' e size v n xs :=
  ⟨h.1, h.2.imp id (fun ⟨g, cap, cur, hv, hg, r⟩ => ⟨g, cap, cur, hv, Nat.le_trans hb hg, r⟩)⟩
theorem own_blk {w : World} {base : Nat} {e : TypeId} {size n : Nat} {v : Value} {xs : List Value} (h : w.ownsRow base e size v n xs) (g : Nat) (hg : v.ownBlock = some g) : base ≤ g ∧ ∃ cs, Blk w g e cs := by
  rcases h.2 with ⟨hv, _⟩ | ⟨g', cap, cur, hv, hb, hh, _⟩
  · rw [hv] at hg; simp [Value.ownBlock] at hg
  · rw [hv] at hg
    have : g' = g := by simpa [Value.ownBlock] using hg
    subst this
    exact ⟨hb, cur, hh⟩
/-- A cell of a row: its block and place. -/
theorem own_cell {w : World} {base : Nat} {e : TypeId} {size n : Nat} {v : Value} {xs : List Value} (h : w.ownsRow base e size v n xs) (hn : 0 < n) : ∃ g cap cur, v = .slice (some ⟨g, 0, none⟩) n cap ∧ base ≤ g ∧ Blk w g e cur ∧ n ≤ cap ∧ cap ≤ maxLen ∧ ∀ j, j < n * size → cur[j]? = xs[j]? := by
  rcases h.2 with ⟨_, h0⟩ | ⟨g, cap, cur, hv, hb, hh, hc, hm, hs, ht⟩
  · omega
  · refine ⟨g, cap, cur, hv, hb, hh, hc, hm, fun j hj => ?_⟩
    have e1 : cur[j]? = cur.toList[j]? := by simp
    rw [e1, ← ht, List.getElem?_take_of_lt hj]
/-! ### Moves, lists of moves -/
def mcs (l : List (Int × Value)) : List Value := l.flatMap fun x => [.int .i64 x.1, x.2]
theorem mcs_len (l : List (Int × Value)) : (mcs l).length = l.length * 2 := by induction l with | nil => rfl | cons a l ih => simp [mcs, List.flatMap_cons] at ih ⊢; omega
theorem mcs_app (a b : List (Int × Value)) : mcs (a ++ b) = mcs a ++ mcs b := by simp [mcs]
theorem mcs_at : ∀ (l : List (Int × Value)) (k : Nat) (hk : k < l.length), (mcs l)[k * 2]? = some (.int .i64 l[k].1) ∧ (mcs l)[k * 2 + 1]? = some l[k].2
  | x :: l, 0, _ => by simp [mcs]
  | x :: l, k + 1, hk => by
    have := mcs_at l k (by simpa using hk)
    have e : mcs (x :: l) = .int .i64 x.1 :: x.2 :: mcs l := rfl
    rw [e, show (k + 1) * 2 = k * 2 + 2 by omega]
    simpa using this
def OwnM (w : World) (base : Nat) (v : Value) (l : List (Int × Value)) : Prop := w.ownsRow base 41 2 v l.length (mcs l)
/-- What the cells of a list of moves read as. -/
structure MvR (w : World) (xs : List (Int × Value)) (l : List Mv) : Prop where
  len : xs.length = l.length
  at_ : ∀ k (h1 : k < xs.length) (h2 : k < l.length), xs[k].1 = l[k].1 ∧ I64 l[k].1 ∧ OwnI w 0 xs[k].2 l[k].2 ∧ ∀ t ∈ l[k].2, I64 t
theorem MvR.kt {ts : List TypeId} {w w' : World} {xs : List (Int × Value)} {l : List Mv} (h : MvR w xs l) (hk : KT ts w w') (ht : 3 ∈ ts) : MvR w' xs l :=
  ⟨h.len, fun k h1 h2 => by
    obtain ⟨a, b, c, d⟩ := h.at_ k h1 h2
    exact ⟨a, b, own_kt c hk ht, d⟩⟩
theorem MvR.nil (w : World) : MvR w [] [] := ⟨rfl, fun k h => by simp at h⟩
theorem MvR.snoc {w : World} {xs : List (Int × Value)} {l : List Mv} (h : MvR w xs l) {a : Int} {v : Value} {tos : List Int} (ha : I64 a) (ho : OwnI w 0 v tos) (ht : ∀ t ∈ tos, I64 t) : MvR w (xs ++ [(a, v)]) (l ++ [(a, tos)]) := by
  refine ⟨by simp [h.len], fun k h1 h2 => ?_⟩
  have hl := h.len
  by_cases hk : k < xs.length
  · rw [List.getElem_append_left hk, List.getElem_append_left (by omega)]
    exact h.at_ k hk (by omega)
  · have e : k = xs.length := by simp at h1; omega
    subst e
    simp [hl]
    exact ⟨ha, ho, ht⟩
/-- A list of moves of the call's own, as a reader sees it. -/
theorem mv_slr {w : World} {base : Nat} {v : Value} {xs : List (Int × Value)} {l : List Mv} (h : OwnM w base v xs) (hr : MvR w xs l) : ∃ A c, v = .slice A l.length c ∧ l.length ≤ c ∧ c ≤ maxLen ∧ SlR w w.heap.size A l := by
  have hl := hr.len
  by_cases h0 : 0 < xs.length
  · obtain ⟨g, cap, cur, hv, _, hb, hc, hm, hcell⟩ := own_cell h h0
    refine ⟨_, cap, by rw [hv, hl], by omega, hm, SlR.of_blk hb hb.lt (fun k x hx => ?_)⟩
    obtain ⟨hk, rfl⟩ := List.getElem?_eq_some_iff.1 hx
    have hkx : k < xs.length := by omega
    obtain ⟨e1, i1, o1, t1⟩ := hr.at_ k hkx hk
    obtain ⟨A', c', hv', h1, h2, h3⟩ := o1.slr t1
    obtain ⟨m0, m1⟩ := mcs_at xs k hkx
    refine ⟨[.int .i64 l[k].1, .slice A' l[k].2.length c'], rfl, ⟨[_], [_], rfl, rfl, rfl, ⟨rfl, i1⟩, A', c', rfl, h1, h2, h3⟩, fun j u hu => ?_⟩
    have h4 : Rep.size Mv = 2 := rfl
    rw [h4]
    match j, hu with
    | 0, hu => simp at hu; subst hu; rw [hcell _ (by omega), Nat.add_zero, m0, e1]
    | 1, hu => simp at hu; subst hu; rw [hcell _ (by omega), m1, hv']
    | j + 2, hu => simp at hu
  · have e : l = [] := List.eq_nil_of_length_eq_zero (by omega)
    subst e
    rcases h.2 with ⟨hv, _⟩ | ⟨g, cap, cur, hv, _, _, hc, hm, _⟩
    · exact ⟨none, 0, hv, Nat.le_refl _, Nat.zero_le _, SlR.nil⟩
    · have : xs.length = 0 := by omega
      exact ⟨_, cap, by rw [hv, this]; rfl, Nat.zero_le _, hm, SlR.nil⟩
/-- The lists of a game: rows of moves in blocks of their own. -/
structure Nest (w : World) (vs : List Value) (ls : List (List Mv)) : Prop where
  len : vs.length = ls.length
  at_ : ∀ k (h1 : k < vs.length) (h2 : k < ls.length), ∃ xs, OwnM w 0 vs[k] xs ∧ MvR w xs ls[k]
  sep : ∀ i j (hi : i < vs.length) (hj : j < vs.length), i ≠ j → ∀ g, vs[i].ownBlock = some g → vs[j].ownBlock ≠ some g
theorem Nest.kt {ts : List TypeId} {w w' : World} {vs : List Value} {ls : List (List Mv)} (h : Nest w vs ls) (hk : KT ts w w') (h1 : 3 ∈ ts) (h2 : 41 ∈ ts) : Nest w' vs ls :=
  ⟨h.len, fun k a b => by
    obtain ⟨xs, ho, hr⟩ := h.at_ k a b
    exact ⟨xs, own_kt ho hk h2, hr.kt hk h1⟩, h.sep⟩
def OwnL (w : World) (base : Nat) (v : Value) (vs : List Value) : Prop := w.ownsRow base 38 1 v vs.length vs
def OwnB (w : World) (base : Nat) (v : Value) (l : List Bool) : Prop := w.ownsRow base 4 1 v l.length (l.map Value.bool)
theorem OwnB.slr {w : World} {base : Nat} {v : Value} {l : List Bool} (h : OwnB w base v l) : ∃ A c, v = .slice A l.length c ∧ l.length ≤ c ∧ c ≤ maxLen ∧ SlR w w.heap.size A l := by
  by_cases h0 : 0 < l.length
  · obtain ⟨g, cap, cur, hv, _, hb, hc, hm, hcell⟩ := own_cell h h0
    refine ⟨_, cap, hv, hc, hm, SlR.of_blk hb hb.lt (fun k x hx => ?_)⟩
    obtain ⟨hk, rfl⟩ := List.getElem?_eq_some_iff.1 hx
    refine ⟨[.bool l[k]], rfl, rfl, fun j u hu => ?_⟩
    match j, hu with
    | 0, hu => simp at hu; subst hu; have h4 : Rep.size Bool = 1 := rfl; rw [h4, Nat.mul_one, Nat.add_zero, hcell _ (by omega)]; simp [hk]
    | j + 1, hu => simp at hu
  · have e : l = [] := List.eq_nil_of_length_eq_zero (by omega)
    subst e
    rcases h.2 with ⟨hv, _⟩ | ⟨g, cap, cur, hv, _, _, hc, hm, _⟩
    · exact ⟨none, 0, hv, Nat.le_refl _, Nat.zero_le _, SlR.nil⟩
    · exact ⟨_, cap, hv, Nat.zero_le _, hm, SlR.nil⟩
theorem nest_slr {w : World} {base : Nat} {v : Value} {vs : List Value} {ls : List (List Mv)} (h : OwnL w base v vs) (hn : Nest w vs ls) : ∃ A c, v = .slice A ls.length c ∧ ls.length ≤ c ∧ c ≤ maxLen ∧ SlR w w.heap.size A ls := by
  have hl := hn.len
  by_cases h0 : 0 < vs.length
  · obtain ⟨g, cap, cur, hv, _, hb, hc, hm, hcell⟩ := own_cell h h0
    refine ⟨_, cap, by rw [hv, hl], by omega, hm, SlR.of_blk hb hb.lt (fun k x hx => ?_)⟩
    obtain ⟨hk, rfl⟩ := List.getElem?_eq_some_iff.1 hx
    have hkv : k < vs.length := by omega
    obtain ⟨xs, ho, hr⟩ := hn.at_ k hkv hk
    obtain ⟨A', c', hv', h1, h2, h3⟩ := mv_slr ho hr
    refine ⟨[.slice A' ls[k].length c'], rfl, ⟨A', c', rfl, h1, h2, h3⟩, fun j u hu => ?_⟩
    have h4 : Rep.size (List Mv) = 1 := rfl
    rw [h4, Nat.mul_one]
    match j, hu with
    | 0, hu => simp at hu; subst hu; rw [Nat.add_zero, hcell _ (by omega), List.getElem?_eq_getElem hkv, hv']
    | j + 1, hu => simp at hu
  · have e : ls = [] := List.eq_nil_of_length_eq_zero (by omega)
    subst e
    rcases h.2 with ⟨hv, _⟩ | ⟨g, cap, cur, hv, _, _, hc, hm, _⟩
    · exact ⟨none, 0, hv, Nat.le_refl _, Nat.zero_le _, SlR.nil⟩
    · have : vs.length = 0 := by omega
      exact ⟨_, cap, by rw [hv, this]; rfl, Nat.zero_le _, hm, SlR.nil⟩
/-- A game of the call's own reads as an argument. -/
theorem own_game {w : World} {b1 b2 : Nat} {vG vM : Value} {vs : List Value} {g : Gm} (hG : OwnB w b1 vG g.1) (hM : OwnL w b2 vM vs) (hN : Nest w vs g.2) : ∃ Ag Am cg cm, vG = .slice Ag g.1.length cg ∧ vM = .slice Am g.2.length cm ∧ GmR w w.heap.size Ag Am g := by
  obtain ⟨A, c, e1, h1, h2, h3⟩ := hG.slr
  obtain ⟨A', c', e2, h4, h5, h6⟩ := nest_slr hM hN
  exact ⟨A, A', c, c', e1, e2, ⟨h3, h6, by omega, by omega⟩⟩
end Go.Proofs.Ytiaplhdgchbkkaa
