
/- Rows of the call's own, of any element: kept, grown, appended to; words that name no chapter. -/
import Derived.Test.YtbefmjodpndndaaDoorMem
import Derived.Test.YtbefmjodpndndaaDoorRegG
import Derived.Deep.AppendLies
set_option linter.unusedSimpArgs false
set_option linter.unusedVariables false
namespace Go.Proofs.YtbefmjodpndndaaDoor
open Go.RowKit Go.IntWalk

theorem gr_set (w : World) (b i : Nat) (u : Value) : w.grownBy (w.setCell ⟨b, i, none⟩ u) (some b) :=
  ⟨rfl, rfl, rfl, by simp, fun k _ hk => Below.heap_setCell w _ u k (fun e => hk (by rw [e]))⟩
theorem gr_tr {w w1 w2 : World} {r : Option Nat} (h : w.grownBy w1 r) (h2 : w1.grownBy w2 r) : w.grownBy w2 r :=
  ⟨h2.os.trans h.os, h2.tape.trans h.tape, h2.output.trans h.output, Nat.le_trans h.size h2.size, fun k hk hr => (h2.block k (Nat.lt_of_lt_of_le hk h.size) hr).trans (h.block k hk hr)⟩
theorem OwnI.form {w : World} {base : Nat} {v : Value} {l : List Int} (h : OwnI w base v l) : ∃ A c, v = .slice A l.length c ∧ (l ≠ [] → ∃ g, A = some ⟨g, 0, none⟩ ∧ base ≤ g ∧ g < w.heap.size ∧ (∀ k (hk : k < l.length), w.cell? ⟨g, k, none⟩ = some (.int .i64 l[k])) ∧ ∀ k, w.frozen? ⟨g, k, none⟩ = false) := by
  rcases h.2 with ⟨hv, hn⟩ | ⟨g, cap, cur, hv, hg, hb, hc, hm, hs, ht⟩
  · have : l = [] := List.eq_nil_of_length_eq_zero hn
    subst this
    exact ⟨none, 0, hv, fun h => absurd rfl h⟩
  · have hb : Blk w g 3 cur := hb
    refine ⟨_, cap, hv, fun _ => ⟨g, rfl, hg, hb.lt, fun k hk => ?_, fun k => hb.frozen k⟩⟩
    rw [hb.cell]
    have e : cur[k]? = cur.toList[k]? := by simp
    have e2 : (cur.toList.take (l.length * 1))[k]? = cur.toList[k]? := List.getElem?_take_of_lt (by omega)
    rw [e, ← e2, ht, List.getElem?_map, List.getElem?_eq_getElem hk]
    rfl
theorem OwnI.at_ {w : World} {base g c n : Nat} {l : List Int} (h : OwnI w base (.slice (some ⟨g, 0, none⟩) n c) l) {k : Nat} (hk : k < l.length) : w.cell? ⟨g, k, none⟩ = some (.int .i64 l[k]) := by
  obtain ⟨A, c', hv, hA⟩ := h.form
  obtain ⟨g', rfl, _, _, hc, _⟩ := hA (by intro e; subst e; simp at hk)
  simp only [Value.slice.injEq, Option.some.injEq, Addr.mk.injEq] at hv
  obtain ⟨⟨rfl, _⟩, _, _⟩ := hv
  exact hc k hk
theorem OwnI.set_ {w : World} {base g c n : Nat} {l : List Int} (h : OwnI w base (.slice (some ⟨g, 0, none⟩) n c) l) {k : Nat} (hk : k < l.length) (y : Int) : OwnI (w.setCell ⟨g, k, none⟩ (.int .i64 y)) base (.slice (some ⟨g, 0, none⟩) n c) (l.set k y) := by
  rcases h.2 with ⟨hv, _⟩ | ⟨g', cap, cur, hv, hg, hb, hc, hm, hs, ht⟩
  · simp at hv
  · simp only [Value.slice.injEq, Option.some.injEq, Addr.mk.injEq, and_true] at hv
    obtain ⟨rfl, rfl, rfl⟩ := hv
    have hb : Blk w g 3 cur := hb
    have hb' := hb.set_ k (.int .i64 y)
    refine ⟨by simp, .inr ⟨g, c, _, by simp, hg, hb', by simpa using hc, hm, by simpa using hs, ?_⟩⟩
    rw [Array.toList_setIfInBounds]
    simp only [List.length_set]
    rw [List.map_set, ← ht, List.take_set]
theorem OwnI.lt {w : World} {base : Nat} {v : Value} {l : List Int} (h : OwnI w base v l) : ∀ k, v.ownBlock = some k → base ≤ k ∧ k < w.heap.size := World.ownsRow.lt h
theorem gr_drew (w : World) (row : Option Nat) : w.grownBy w.drew row := ⟨rfl, rfl, rfl, Nat.le_refl _, fun _ _ _ => rfl⟩
theorem gr_below {w w' : World} (h : Below w.heap.size w w') (row : Option Nat) : w.grownBy w' row := ⟨h.os, h.tape, h.output, h.size, fun k hk _ => h.block k hk⟩
/-- Whole blocks of these types are as they were. -/
def KT (ts : List TypeId) (w w' : World) : Prop := ∀ g t cs, t ∈ ts → Blk w g t cs → Blk w' g t cs
theorem KT.refl (ts : List TypeId) (w : World) : KT ts w w := fun _ _ _ _ h => h
theorem KT.trans {ts : List TypeId} {a b c : World} (h : KT ts a b) (h' : KT ts b c) : KT ts a c := fun g t cs ht hb => h' g t cs ht (h g t cs ht hb)
theorem KT.of_below {ts : List TypeId} {w w' : World} (h : Below w.heap.size w w') : KT ts w w' := fun _ _ _ _ hb => hb.below h hb.lt
theorem KT.of_grown {ts : List TypeId} {w w' : World} {row : Option Nat} (h : w.grownBy w' row) (hr : ∀ g, row = some g → ∃ t cs, Blk w g t cs ∧ t ∉ ts) : KT ts w w' := fun g t cs ht hb => hb.grown h (fun e => by
  obtain ⟨t', cs', hb', hn⟩ := hr g e.symm
  have he : t = t' := Classical.byContradiction fun hne => Blk.ne_ hb hb' hne rfl
  exact hn (he ▸ ht))
theorem KT.of_set {ts : List TypeId} {w : World} {g i : Nat} {t : TypeId} {cs : Array Value} (h : Blk w g t cs) (ht : t ∉ ts) (u : Value) : KT ts w (w.setCell ⟨g, i, none⟩ u) :=
  KT.of_grown (gr_set w g i u) (fun g' e => by injection e with e; subst e; exact ⟨t, cs, h, ht⟩)
/-- A row of the call's own: kept, when its block is. -/
theorem own_kept {w w' : World} {base : Nat} {e : TypeId} {size n : Nat} {v : Value} {xs : List Value} (h : w.ownsRow base e size v n xs) (hk : ∀ g cs, v.ownBlock = some g → Blk w g e cs → Blk w' g e cs) : w'.ownsRow base e size v n xs := by
  refine ⟨h.1, ?_⟩
  rcases h.2 with h0 | ⟨g, cap, cur, hv, hg, hh, r⟩
  · exact .inl h0
  · exact .inr ⟨g, cap, cur, hv, hg, hk g cur (by rw [hv]; rfl) hh, r⟩
theorem own_kt {ts : List TypeId} {w w' : World} {base : Nat} {e : TypeId} {size n : Nat} {v : Value} {xs : List Value} (h : w.ownsRow base e size v n xs) (hk : KT ts w w') (ht : e ∈ ts) : w'.ownsRow base e size v n xs :=
  own_kept h (fun g cs _ hb => hk g e cs ht hb)
theorem own_base {w : World} {base base' : Nat} {e : TypeId} {size n : Nat} {v : Value} {xs : List Value} (h : w.ownsRow base e size v n xs) (hb : base' ≤ base) : w.ownsRow base' e size v n xs :=
  ⟨h.1, h.2.imp id (fun ⟨g, cap, cur, hv, hg, r⟩ => ⟨g, cap, cur, hv, Nat.le_trans hb hg, r⟩)⟩
theorem own_blk {w : World} {base : Nat} {e : TypeId} {size n : Nat} {v : Value} {xs : List Value} (h : w.ownsRow base e size v n xs) (g : Nat) (hg : v.ownBlock = some g) : base ≤ g ∧ ∃ cs, Blk w g e cs := by
  rcases h.2 with ⟨hv, _⟩ | ⟨g', cap, cur, hv, hb, hh, _⟩
  · rw [hv] at hg; simp [Value.ownBlock] at hg
  · rw [hv] at hg
    have : g' = g := by simpa [Value.ownBlock] using hg
    subst this
    exact ⟨hb, cur, hh⟩
/-- A cell of a row: its block and place. -/
theorem own_cell {w : World} {base : Nat} {e : TypeId} {size n : Nat} {v : Value} {xs : List Value} (h : w.ownsRow base e size v n xs) (hn : 0 < n) : ∃ g cap cur, v = .slice (some ⟨g, 0, none⟩) n cap ∧ base ≤ g ∧ Blk w g e cur ∧ n ≤ cap ∧ cap ≤ maxLen ∧ ∀ j, j < n * size → cur[j]? = xs[j]? := by
  rcases h.2 with ⟨_, h0⟩ | ⟨g, cap, cur, hv, hb, hh, hc, hm, hs, ht⟩
  · omega
  · refine ⟨g, cap, cur, hv, hb, hh, hc, hm, fun j hj => ?_⟩
    have e1 : cur[j]? = cur.toList[j]? := by simp
    rw [e1, ← ht, List.getElem?_take_of_lt hj]
/-- A row of the call's own: one cell anew. -/
theorem own_set {w : World} {base : Nat} {e : TypeId} {size n q c : Nat} {xs : List Value} (h : w.ownsRow base e size (.slice (some ⟨q, 0, none⟩) n c) n xs) {k : Nat} (hk : k < n * size) (u : Value) : (w.setCell ⟨q, k, none⟩ u).ownsRow base e size (.slice (some ⟨q, 0, none⟩) n c) n (xs.set k u) := by
  rcases h.2 with ⟨hv, _⟩ | ⟨g, cap, cur, hv, hb, hh, hc, hm, hs, ht⟩
  · cases hv
  · injection hv with h1 h2 h3
    injection h1 with h1
    injection h1 with h1
    subst h1 h3
    have hh : Blk w q e cur := hh
    have hlen := congrArg List.length ht
    refine ⟨by simpa using h.1, .inr ⟨q, c, cur.setIfInBounds k u, rfl, hb, hh.set_ k u, hc, hm, by simpa using hs, ?_⟩⟩
    rw [Array.toList_setIfInBounds, ← ht, List.take_set]
/-- append of nothing. -/
theorem run_append0 {t e : TypeId} {i : TypeInfo} (ht : Tryd.prog.underlying t = some (.slice e)) (hne : ∀ k, TypeDesc.slice e ≠ .int k) (hi : Tryd.prog.info? e = some i) (w : World) (ty : TypeId) (A B : Option Addr) (n c d : Nat) (hnc : n ≤ c) :
    (Builtin.append_ #[t, t] ty #[.slice A n c, .slice B 0 d]).run Tryd.prog w = .ok (.slice A n c) w := by
  cases A <;> cases B <;> simp [Builtin.append_, run_underlying ht, sizeOf, typeInfo, hi, storeCells, loadCells, Builtin.lenOf, Builtin.firstCells, go_sem, hnc]
/-- append of a whole row of the call's own. -/
theorem run_appOwn {t e : TypeId} {i : TypeInfo} {z : Value} {size bytes : Nat} (ht : Tryd.prog.underlying t = some (.slice e)) (hi : Tryd.prog.info? e = some i) (hz : i.zero = some z) (hs : i.size = size) (hb : i.bytes = bytes) (hzs : z.cells.size = size) (hsz : 0 < size) (w : World) (ty : TypeId)
    (base : Nat) (v : Value) (n : Nat) (xs : List Value) (hown : w.ownsRow base e size v n xs) (b2 : Nat) (u : Value) (m : Nat) (ys : List Value) (hu : w.ownsRow b2 e size u m ys) (h1 : ∀ x ∈ ys, x.oneCell' = true) (h63 : n + m ≤ maxLen) (hby : (n + m) * bytes ≤ 140737488355328) (hbase : base ≤ w.heap.size) :
    ∃ v' w', (Builtin.append_ #[t, t] ty #[v, u]).run Tryd.prog w = .ok v' w' ∧ w'.ownsRow base e size v' (n + m) (xs ++ ys) ∧ w.grownBy w' v.ownBlock := by
  rcases hu.2 with ⟨rfl, rfl⟩ | ⟨g, cap, cur, rfl, hg, hh, hc, hm, hsz2, ht2⟩
  · have hy : ys = [] := List.eq_nil_of_length_eq_zero (by simpa using hu.1)
    subst hy
    obtain ⟨A, c, rfl, hnc⟩ : ∃ A c, v = .slice A n c ∧ n ≤ c := by
      rcases hown.2 with ⟨rfl, rfl⟩ | ⟨g, cap, cur, rfl, _, _, hc, _⟩
      · exact ⟨none, 0, rfl, Nat.le_refl _⟩
      · exact ⟨_, cap, rfl, hc⟩
    refine ⟨_, w, run_append0 ht (by intro k h; cases h) hi w ty A none n c 0 hnc, by simpa using hown, World.grownBy.refl _ _⟩
  · have hb2 : Blk w g e cur := hh
    obtain ⟨v', w', h1', h2', h3', _⟩ := run_append_own_at (P := Tryd.prog) w base t ty e i z size bytes ht hi hz hs hb hzs hsz v n xs hown ⟨g, 0, none⟩ m cap ys hu.1 (fun j x hx => by
      have : w.cell? ((⟨g, 0, none⟩ : Addr).add j) = cur[j]? := by
        unfold Addr.add
        by_cases h0 : j = 0
        · subst h0; simp [hb2.cell]
        · simp [h0, hb2.cell]
      rw [this]
      have e1 : cur[j]? = cur.toList[j]? := by simp
      have hj : j < m * size := by have := (List.getElem?_eq_some_iff.1 hx).1; rw [hu.1] at this; exact this
      rw [e1, ← List.getElem?_take_of_lt hj, ht2, hx]) h1 h63 hby hbase
    exact ⟨v', w', h1', h2', h3'⟩
/-- A call that hands a value back, in a drawn region. -/
theorem callV {n : Nat} {P : Program} {o : Oper} {a : Act} {w : World} {K : Act → World → Prop} {Q : Exit → Act → World → Prop} {f : FuncId} {args : Array Value} {R : Value → World → Prop} (hd : ∀ c, o.op ≠ .defer c)
    (hr : (execOp a.eval o).run P w = .ok (.enter f args) w) (hc : Calls P f args w fun e w' => ∃ v, e = .returned v ∧ R v w') (h : ∀ v w', R v w' → K (a.put o.dst v) w') : o.wpIn Fence.wide n P a w K Q := by
  unfold Oper.wpIn
  rw [Oper.semAt_plain _ _ _ hd, hr]
  exact ⟨fun f _ => trivial, fun h => by simp [Fence.wide] at h, callsIn_wide.2 (hc.mono fun e w' he => by obtain ⟨v, rfl, hR⟩ := he; exact h v w' hR)⟩
theorem own_form {w : World} {base : Nat} {e : TypeId} {size n : Nat} {v : Value} {xs : List Value} (h : w.ownsRow base e size v n xs) : ∃ A c, v = .slice A n c := by
  rcases h.2 with ⟨rfl, rfl⟩ | ⟨g, cap, cur, rfl, _⟩
  · exact ⟨none, 0, rfl⟩
  · exact ⟨_, cap, rfl⟩
end Go.Proofs.YtbefmjodpndndaaDoor
