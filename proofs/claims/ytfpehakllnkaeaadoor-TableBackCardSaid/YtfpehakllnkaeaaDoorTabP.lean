
/- Table, plain: rows, what Check, Row, Follow do; the plain laws of TableRefuses and TableSolved. -/
import Derived.Test.YtfpehakllnkaeaaDoorGamM
set_option linter.unusedSimpArgs false
set_option linter.unusedVariables false
namespace Go.Proofs.YtfpehakllnkaeaaDoor
open Go.RowKit Go.IntWalk

/-! ### Looking up by a key that ascends -/
def Asc {T : Type} (key : T → Int) (l : List T) : Prop := l.Pairwise (fun a b => key a < key b)
def look {T : Type} (key : T → Int) (l : List T) (k : Int) : Option T := l.find? (fun x => decide (key x = k))
theorem Asc.at_ {T : Type} {key : T → Int} {l : List T} (h : Asc key l) {i j : Nat} (hij : i < j) (hj : j < l.length) : key (l[i]'(by omega)) < key l[j] := List.pairwise_iff_getElem.1 h i j (by omega) hj hij
theorem Asc.le_ {T : Type} {key : T → Int} {l : List T} (h : Asc key l) {i j : Nat} (hij : i ≤ j) (hj : j < l.length) : key (l[i]'(by omega)) ≤ key l[j] := by
  rcases Nat.lt_or_eq_of_le hij with hlt | rfl
  · have := h.at_ hlt hj; omega
  · omega
theorem look_mem {T : Type} {key : T → Int} {l : List T} {k : Int} {x : T} (h : look key l k = some x) : x ∈ l ∧ key x = k := ⟨List.mem_of_find?_eq_some h, by simpa using List.find?_some h⟩
theorem Asc.inj {T : Type} {key : T → Int} {l : List T} (h : Asc key l) {x y : T} (hx : x ∈ l) (hy : y ∈ l) (e : key x = key y) : x = y := by
  obtain ⟨i, hi, rfl⟩ := List.getElem_of_mem hx
  obtain ⟨j, hj, rfl⟩ := List.getElem_of_mem hy
  rcases Nat.lt_trichotomy i j with hlt | rfl | hgt
  · have := h.at_ hlt hj; omega
  · rfl
  · have := h.at_ hgt hi; omega
theorem Asc.look {T : Type} {key : T → Int} {l : List T} (h : Asc key l) {x : T} (hx : x ∈ l) : look key l (key x) = some x := by
  cases hf : Go.Proofs.YtfpehakllnkaeaaDoor.look key l (key x) with
  | none => exact absurd (List.find?_eq_none.1 hf x hx) (by simp)
  | some y =>
    obtain ⟨hy, e⟩ := look_mem hf
    rw [h.inj hy hx e]
theorem look_none {T : Type} {key : T → Int} {l : List T} {k : Int} (h : ∀ x ∈ l, key x ≠ k) : look key l k = none := by
  unfold look
  rw [List.find?_eq_none]
  intro x hx
  simpa using h x hx
theorem look_none_iff {T : Type} {key : T → Int} {l : List T} {k : Int} (h : look key l k = none) : ∀ x ∈ l, key x ≠ k := by
  intro x hx
  have := List.find?_eq_none.1 h x hx
  simpa using this
/-- What the binary search ends with. -/
theorem look_bs {T : Type} {key : T → Int} {l : List T} {k : Int} (h : Asc key l) {i : Nat} (hi : i ≤ l.length) (h1 : ∀ j (hj : j < i), key (l[j]'(by omega)) < k) (h2 : ∀ j (hj : i ≤ j) (hl : j < l.length), k ≤ key l[j]) :
    look key l k = if hl : i < l.length then (if key l[i] = k then some l[i] else none) else none := by
  by_cases hl : i < l.length
  · rw [dif_pos hl]
    by_cases e : key l[i] = k
    · rw [if_pos e, ← e]; exact h.look (List.getElem_mem hl)
    · rw [if_neg e]
      refine look_none fun x hx => ?_
      obtain ⟨j, hj, rfl⟩ := List.getElem_of_mem hx
      rcases Nat.lt_trichotomy j i with hlt | rfl | hgt
      · have := h1 j hlt; omega
      · exact e
      · have := h.at_ hgt hj; have := h2 i (Nat.le_refl _) hl; omega
  · rw [dif_neg hl]
    refine look_none fun x hx => ?_
    obtain ⟨j, hj, rfl⟩ := List.getElem_of_mem hx
    have := h1 j (by omega); omega

/-! ### Tables -/
abbrev kP (r : Row) : Int := r.1
abbrev kM (m : Mv) : Int := m.1
def tRow (rows : List Row) (p : Int) : Option Row := look kP rows p
def isP (g : Gm) (p : Int) : Bool := decide (0 ≤ p) && decide (p < g.1.length)
def tMove (g : Gm) (p a : Int) : Option Mv := if isP g p then look kM (g.2.getD p.toNat []) a else none
def okTo (rows : List Row) (k : Int) (t : Int) : Bool := match tRow rows t with | none => false | some x => decide (0 ≤ x.2.2) && decide (x.2.2 < k)
def tGood (g : Gm) (rows : List Row) (r : Row) : Bool :=
  isP g r.1 && (if g.1.getD r.1.toNat false then decide (r.2.1 = -1) && decide (r.2.2 = 0)
    else match tMove g r.1 r.2.1 with | none => false | some m => decide (1 ≤ r.2.2) && m.2.all (okTo rows r.2.2))
/-- What Check says. -/
def ChkR (g : Gm) (rows : List Row) (k c : Int) : Prop :=
  (∃ i, ∃ h : i < rows.length, 0 < i ∧ rows[i].1 ≤ (rows[i - 1]'(by omega)).1 ∧ (∀ j (hj : j < i), 0 < j → (rows[j - 1]'(by omega)).1 < (rows[j]'(by omega)).1) ∧ k = i ∧ c = 2) ∨
  (Asc kP rows ∧ ∃ i, ∃ h : i < rows.length, tGood g rows rows[i] = false ∧ (∀ j (hj : j < i), tGood g rows (rows[j]'(by omega)) = true) ∧ k = i ∧ c = 25) ∨
  (Asc kP rows ∧ (∀ r ∈ rows, tGood g rows r = true) ∧ k = -1 ∧ c = 0)
theorem asc_of {rows : List Row} (h : ∀ j (hj : j < rows.length), 0 < j → (rows[j - 1]'(by omega)).1 < rows[j].1) : Asc kP rows := by
  refine List.pairwise_iff_getElem.2 fun i j hi hj hij => ?_
  induction j with
  | zero => omega
  | succ j ih =>
    have h1 := h (j + 1) hj (by omega)
    simp only [Nat.add_sub_cancel] at h1
    rcases Nat.lt_or_eq_of_le (Nat.le_of_lt_succ hij) with hlt | rfl
    · have := ih (by omega) hlt
      simp only [kP] at this ⊢
      omega
    · exact h1
theorem ChkR.ok {g : Gm} {rows : List Row} {k : Int} (h : ChkR g rows k 0) : Asc kP rows ∧ ∀ r ∈ rows, tGood g rows r = true := by
  rcases h with ⟨i, h, h0, h1, h2, h3, h4⟩ | ⟨h1, i, h, h2, h3, h4, h5⟩ | ⟨h1, h2, h3, h4⟩
  · omega
  · omega
  · exact ⟨h1, h2⟩
theorem ChkR.bad {g : Gm} {rows : List Row} {k c : Int} (h : ChkR g rows k c) (ha : Asc kP rows) {i : Nat} (hi : i < rows.length) (hb : tGood g rows rows[i] = false) : c = 25 ∧ 0 ≤ k ∧ k ≤ i := by
  rcases h with ⟨j, h, h0, h1, h2, h3, h4⟩ | ⟨h1, j, h, h2, h3, h4, h5⟩ | ⟨h1, h2, h3, h4⟩
  · have := ha.at_ (i := j - 1) (j := j) (by omega) h
    simp only [kP] at this
    omega
  · refine ⟨h5, by omega, ?_⟩
    rcases Nat.lt_or_ge i j with hlt | hge
    · have := h3 i hlt; rw [hb] at this; cases this
    · omega
  · have := h2 _ (List.getElem_mem hi); rw [hb] at this; cases this
theorem ChkR.form {g : Gm} {rows : List Row} {k c : Int} (h : ChkR g rows k c) {i : Nat} (hi : i < rows.length) (h0 : 0 < i) (hb : rows[i].1 ≤ (rows[i - 1]'(by omega)).1) (hlt : ∀ j (hj : j < i), 0 < j → (rows[j - 1]'(by omega)).1 < (rows[j]'(by omega)).1) : k = i ∧ c = 2 := by
  have hna : ¬ Asc kP rows := fun ha => by have := ha.at_ (i := i - 1) (j := i) (by omega) hi; simp only [kP] at this; omega
  rcases h with ⟨j, h, hj0, h1, h2, h3, h4⟩ | ⟨h1, j, h, h2, h3, h4, h5⟩ | ⟨h1, h2, h3, h4⟩
  · rcases Nat.lt_trichotomy i j with hl | rfl | hg
    · have := h2 i hl h0; omega
    · exact ⟨h3, h4⟩
    · have := hlt j hg hj0; omega
  · exact absurd h1 hna
  · exact absurd h1 hna
theorem ChkR.all {g : Gm} {rows : List Row} {k c : Int} (h : ChkR g rows k c) (ha : Asc kP rows) (hg : ∀ r ∈ rows, tGood g rows r = true) : k = -1 ∧ c = 0 := by
  rcases h with ⟨j, h, h0, h1, h2, h3, h4⟩ | ⟨h1, j, h, h2, h3, h4, h5⟩ | ⟨h1, h2, h3, h4⟩
  · have := ha.at_ (i := j - 1) (j := j) (by omega) h
    simp only [kP] at this
    omega
  · have := hg _ (List.getElem_mem h); rw [h2] at this; cases this
  · exact ⟨h3, h4⟩
/-! ### Follow -/
def idxT (n a : Int) : Nat := ((a.tmod n + n).tmod n).toNat
theorem idxT_lt {n a : Int} (h : 0 < n) : (idxT n a : Int) < n ∧ 0 ≤ (a.tmod n + n).tmod n := by
  have h1 := Int.tmod_lt_of_pos a h
  have h2 : -n < a.tmod n := by
    have := Int.lt_tmod_of_pos a h
    omega
  have h3 := Int.tmod_lt_of_pos (a.tmod n + n) h
  have h4 : 0 ≤ (a.tmod n + n).tmod n := Int.tmod_nonneg _ (by omega)
  refine ⟨by unfold idxT; omega, h4⟩
/-- One answer: where it leads. -/
def stepF (g : Gm) (rows : List Row) (p a : Int) : Option Int :=
  match tRow rows p with
  | none => none
  | some r => if g.1.getD p.toNat false || decide (r.2.2 < 1) then none else match tMove g p r.2.1 with
    | none => none
    | some m => some (m.2.getD (idxT m.2.length a) 0)
def folF (g : Gm) (rows : List Row) : Int → List Int → List Int
  | _, [] => []
  | p, a :: r => match stepF g rows p a with | none => [] | some q => q :: folF g rows q r
def folL (g : Gm) (rows : List Row) (p : Int) (l : List Int) : List Int := if isP g p then p :: folF g rows p l else []
/-! ### Right games -/
theorem mvsOK_asc {n : Int} : ∀ {l : List Mv} {last : Int}, mvsOK n last l = true → l.Pairwise (fun a b => a.1 < b.1)
  | [], _, _ => List.Pairwise.nil
  | m :: r, last, h => by
    simp only [mvsOK, Bool.and_eq_true, decide_eq_true_eq] at h
    refine List.pairwise_cons.2 ⟨fun x hx => (mvsOK_mem h.2 x hx).1, mvsOK_asc h.2⟩
theorem acts_of {g : Gm} (hr : rightL g = true) : ∀ l ∈ g.2, l.Pairwise (fun a b => a.1 < b.1) := by
  intro l hl
  simp only [rightL, Bool.and_eq_true, decide_eq_true_eq, List.all_eq_true] at hr
  exact mvsOK_asc (hr.2 l hl)
/-- The row of a position that has a rank. -/
def frow (g : Gm) (p : Nat) : Row := ((p : Int), if (rankL g).getD p 0 = 0 then -1 else firstA g (rankL g) p, (rankL g).getD p 0)
theorem rowF_some {g : Gm} {p : Nat} (h : 0 ≤ (rankL g).getD p 0) : rowF g (rankL g) p = some (frow g p) := by
  unfold rowF frow
  by_cases h0 : (rankL g).getD p 0 = 0
  · rw [if_pos h0, if_pos h0, h0]
  · rw [if_neg h0, if_neg h0, if_pos (by omega)]
theorem rowF_mem {g : Gm} {x : Row} (h : x ∈ solveL g) : ∃ p, p < g.1.length ∧ 0 ≤ (rankL g).getD p 0 ∧ x = frow g p := by
  unfold solveL rowsK at h
  rw [List.mem_filterMap] at h
  obtain ⟨p, hp, hx⟩ := h
  have h0 : 0 ≤ (rankL g).getD p 0 := by
    unfold rowF at hx
    split at hx
    · omega
    · split at hx
      · omega
      · cases hx
  rw [rowF_some h0] at hx
  injection hx with hx
  exact ⟨p, by simpa using hp, h0, hx.symm⟩
theorem mvs_asc {g : Gm} (hr : rightL g = true) (p : Nat) : Asc kM (g.2.getD p []) := by
  by_cases hp : p < g.2.length
  · have : g.2.getD p [] = g.2[p] := by simp [hp]
    rw [this]
    exact acts_of hr _ (List.getElem_mem hp)
  · have : g.2.getD p [] = [] := by simp [hp]
    rw [this]
    exact List.Pairwise.nil
theorem mvs_ne {g : Gm} (hr : rightL g = true) {p : Nat} {m : Mv} (hm : m ∈ g.2.getD p []) : m.2 ≠ [] ∧ ∀ t ∈ m.2, 0 ≤ t ∧ t < g.1.length := by
  by_cases hp : p < g.2.length
  · have e : g.2.getD p [] = g.2[p] := by simp [hp]
    rw [e] at hm
    simp only [rightL, Bool.and_eq_true, decide_eq_true_eq, List.all_eq_true] at hr
    obtain ⟨h1, h2, h3⟩ := mvsOK_mem (hr.2 _ (List.getElem_mem hp)) m hm
    refine ⟨h2, fun t ht => ?_⟩
    have := asc_mem h3 t ht
    omega
  · have e : g.2.getD p [] = [] := by simp [hp]
    rw [e] at hm
    cases hm
theorem tMove_mem {g : Gm} {p a : Int} {m : Mv} (h : tMove g p a = some m) : isP g p = true ∧ m ∈ g.2.getD p.toNat [] ∧ m.1 = a := by
  unfold tMove at h
  split at h
  · rename_i hp
    obtain ⟨h1, h2⟩ := look_mem h
    exact ⟨hp, h1, h2⟩
  · cases h
theorem isP_iff {g : Gm} {p : Int} : isP g p = true ↔ 0 ≤ p ∧ p < g.1.length := by simp [isP]
/-! ### A good row -/
theorem good_parts {g : Gm} {rows : List Row} {r : Row} (h : tGood g rows r = true) : isP g r.1 = true ∧
    ((g.1.getD r.1.toNat false = true ∧ r.2.1 = -1 ∧ r.2.2 = 0) ∨ (g.1.getD r.1.toNat false = false ∧ 1 ≤ r.2.2 ∧ ∃ m, tMove g r.1 r.2.1 = some m ∧ ∀ t ∈ m.2, ∃ x, tRow rows t = some x ∧ 0 ≤ x.2.2 ∧ x.2.2 < r.2.2)) := by
  unfold tGood at h
  rw [Bool.and_eq_true] at h
  refine ⟨h.1, ?_⟩
  have h2 := h.2
  split at h2
  · rename_i hg
    simp only [Bool.and_eq_true, decide_eq_true_eq] at h2
    exact .inl ⟨hg, h2⟩
  · rename_i hg
    refine .inr ⟨by simpa using hg, ?_⟩
    split at h2
    · cases h2
    · rename_i m hm
      simp only [Bool.and_eq_true, decide_eq_true_eq, List.all_eq_true] at h2
      refine ⟨h2.1, m, hm, fun t ht => ?_⟩
      have := h2.2 t ht
      unfold okTo at this
      split at this
      · cases this
      · rename_i x hx
        simp only [Bool.and_eq_true, decide_eq_true_eq] at this
        exact ⟨x, hx, this⟩
theorem good_of {g : Gm} {rows : List Row} {r : Row} {m : Mv} (hp : isP g r.1 = true) (hg : g.1.getD r.1.toNat false = false) (h1 : 1 ≤ r.2.2) (hm : tMove g r.1 r.2.1 = some m) (ht : ∀ t ∈ m.2, okTo rows r.2.2 t = true) : tGood g rows r = true := by
  unfold tGood
  rw [hp, hg, hm]
  simp only [Bool.true_and, Bool.false_eq_true, if_false, Bool.and_eq_true, decide_eq_true_eq, List.all_eq_true]
  exact ⟨h1, ht⟩
theorem bad_rank {g : Gm} {rows rows' : List Row} {r : Row} (h : tGood g rows r = true) (hr : 0 < r.2.2) : tGood g rows' (r.1, r.2.1, 0) = false := by
  obtain ⟨hp, ⟨h1, h2, h3⟩ | ⟨h1, h2, m, hm, -⟩⟩ := good_parts h
  · omega
  · unfold tGood
    simp only [hp, h1, hm, Bool.true_and, Bool.false_eq_true, if_false]
    rfl
theorem bad_up {g : Gm} {rows rows' : List Row} {r : Row} {k : Int} (h : tGood g rows r = true) (hr : r.2.2 = 0) (hk : k ≠ 0) : tGood g rows' (r.1, r.2.1, k) = false := by
  obtain ⟨hp, ⟨h1, h2, h3⟩ | ⟨h1, h2, m, hm, -⟩⟩ := good_parts h
  · unfold tGood
    simp only [hp, h1, Bool.true_and, if_true, hk, decide_false, Bool.and_false]
  · omega
theorem asc_set {rows : List Row} (h : Asc kP rows) {i : Nat} (hi : i < rows.length) {y : Row} (hy : y.1 = rows[i].1) : Asc kP (rows.set i y) := by
  refine List.pairwise_iff_getElem.2 fun a b ha hb hab => ?_
  rw [List.length_set] at ha hb
  have key : ∀ j (hj : j < rows.length), kP ((rows.set i y)[j]'(by rw [List.length_set]; exact hj)) = kP rows[j] := by
    intro j hj
    rw [List.getElem_set]
    split
    · rename_i e; subst e; exact hy
    · rfl
  rw [key a ha, key b hb]
  exact h.at_ hab hb
/-! ### The plain law of TableRefuses -/
section
variable {g : Gm} {rows : List Row} (ha : Asc kP rows) (hg : ∀ r ∈ rows, tGood g rows r = true) {i : Nat} (hi : i < rows.length)
include ha hg hi
theorem ref_low (hr : 0 < rows[i].2.2) {k c : Int} (h : ChkR g (rows.set i (rows[i].1, rows[i].2.1, 0)) k c) : c = 25 ∧ k ≤ i := by
  have h1 : i < (rows.set i (rows[i].1, rows[i].2.1, 0)).length := by rw [List.length_set]; exact hi
  have := h.bad (asc_set ha hi rfl) h1 (by rw [List.getElem_set_self]; exact bad_rank (hg _ (List.getElem_mem hi)) hr)
  omega
theorem ref_up (hr : rows[i].2.2 = 0) {k c : Int} (h : ChkR g (rows.set i (rows[i].1, rows[i].2.1, 1000)) k c) : c = 25 := by
  have h1 : i < (rows.set i (rows[i].1, rows[i].2.1, 1000)).length := by rw [List.length_set]; exact hi
  have := h.bad (asc_set ha hi rfl) h1 (by rw [List.getElem_set_self]; exact bad_up (hg _ (List.getElem_mem hi)) hr (by decide))
  omega
omit hg in
theorem ref_twice {k c : Int} (h : ChkR g (rows.take (i + 1) ++ rows.drop i) k c) : c = 2 ∧ k = i + 1 := by
  have hl : (rows.take (i + 1)).length = i + 1 := by rw [List.length_take]; omega
  have e0 : ∀ j (hj : j ≤ i), (rows.take (i + 1) ++ rows.drop i)[j]'(by rw [List.length_append]; omega) = rows[j] := by
    intro j hj
    rw [List.getElem_append_left (by omega), List.getElem_take]
  have e1 : (rows.take (i + 1) ++ rows.drop i)[i + 1]'(by rw [List.length_append, List.length_drop]; omega) = rows[i] := by
    rw [List.getElem_append_right (by omega), List.getElem_drop]
    simp only [hl]
    congr 1
    omega
  have := h.form (i := i + 1) (by rw [List.length_append, List.length_drop]; omega) (by omega) (by
    rw [e1]
    simp only [Nat.add_sub_cancel]
    rw [e0 i (Nat.le_refl _)]
    exact Int.le_refl _) (fun j hj hj0 => by
    rw [e0 j (by omega), e0 (j - 1) (by omega)]
    exact ha.at_ (by omega) (by omega))
  exact ⟨this.2, by rw [this.1]; push_cast; rfl⟩
omit hg hi in
theorem less_asc : Asc kP (rows.take i ++ rows.drop (i + 1)) := by
  have : (rows.take i ++ rows.drop (i + 1)).Sublist rows := by
    rw [← List.eraseIdx_eq_take_drop_succ]
    exact List.eraseIdx_sublist ..
  exact List.Pairwise.sublist this ha
omit hg in
theorem less_none : tRow (rows.take i ++ rows.drop (i + 1)) rows[i].1 = none := by
  refine look_none fun x hx e => ?_
  rw [← List.eraseIdx_eq_take_drop_succ, List.mem_eraseIdx_iff_getElem] at hx
  obtain ⟨j, hj, hji, rfl⟩ := hx
  rcases Nat.lt_or_gt_of_ne hji with h | h
  · have := ha.at_ h hi; simp only [kP] at this e; omega
  · have := ha.at_ h hj; simp only [kP] at this e; omega
omit hg in
theorem ref_less {q : Nat} (hq : q < rows.length) (hqi : q ≠ i) (hr : rightL g = true) {a : Int} (hs : stepF g rows rows[q].1 a = some rows[i].1) {k c : Int} (h : ChkR g (rows.take i ++ rows.drop (i + 1)) k c) : c = 25 ∧ 0 ≤ k ∧ k < (rows.take i ++ rows.drop (i + 1)).length := by
  have hm : rows[q] ∈ rows.take i ++ rows.drop (i + 1) := by
    rw [← List.eraseIdx_eq_take_drop_succ, List.mem_eraseIdx_iff_getElem]
    exact ⟨q, hq, hqi, rfl⟩
  obtain ⟨j, hj, e⟩ := List.getElem_of_mem hm
  have hb : tGood g (rows.take i ++ rows.drop (i + 1)) rows[q] = false := by
    cases hx : tGood g (rows.take i ++ rows.drop (i + 1)) rows[q] with
    | false => rfl
    | true =>
      exfalso
      unfold stepF at hs
      rw [show tRow rows rows[q].1 = some rows[q] from ha.look (List.getElem_mem hq)] at hs
      simp only at hs
      split at hs
      · cases hs
      · rename_i hcond
        simp only [Bool.or_eq_true, decide_eq_true_eq, not_or, Bool.not_eq_true] at hcond
        obtain ⟨hp, ⟨h1, -, -⟩ | ⟨h1, h2, m, hmv, ht⟩⟩ := good_parts hx
        · rw [h1] at hcond; cases hcond.1
        · rw [hmv] at hs
          simp only [Option.some.injEq] at hs
          obtain ⟨hne, -⟩ := mvs_ne hr (tMove_mem hmv).2.1
          have hlt := (idxT_lt (n := m.2.length) (a := a) (by have := List.length_pos_iff.2 hne; omega)).1
          have hin : m.2.getD (idxT m.2.length a) 0 ∈ m.2 := by
            rw [List.getD_eq_getElem?_getD, List.getElem?_eq_getElem (by omega)]
            exact List.getElem_mem _
          rw [hs] at hin
          obtain ⟨x, hx2, -⟩ := ht _ hin
          rw [less_none ha hi] at hx2
          cases hx2
  have := h.bad (less_asc ha) hj (by rw [e]; exact hb)
  omega
end
/-! ### The plain law of TableSolved -/
theorem solve_asc (g : Gm) : Asc kP (solveL g) := by
  unfold solveL rowsK
  refine List.Pairwise.filterMap (R := fun a b => a < b) _ ?_ List.pairwise_lt_range
  intro a b hab x hx y hy
  have key : ∀ {p : Nat} {z : Row}, rowF g (rankL g) p = some z → z.1 = p := by
    intro p z hz
    unfold rowF at hz
    split at hz
    · cases hz; rfl
    · split at hz
      · cases hz; rfl
      · cases hz
  simp only [kP]
  rw [key hx, key hy]
  omega
theorem solve_row {g : Gm} {p : Nat} (hp : p < g.1.length) (h : 0 ≤ (rankL g).getD p 0) : tRow (solveL g) p = some (frow g p) := by
  have hm : frow g p ∈ solveL g := by
    unfold solveL rowsK
    rw [List.mem_filterMap]
    exact ⟨p, by simpa using hp, rowF_some h⟩
  exact (solve_asc g).look hm
theorem solve_good {g : Gm} (hr : rightL g = true) (hg : GmOK g) : ∀ r ∈ solveL g, tGood g (solveL g) r = true := by
  intro r hr2
  obtain ⟨p, hp, h0, rfl⟩ := rowF_mem hr2
  have hR := rankL_rk hg
  have hP : isP g (frow g p).1 = true := isP_iff.2 ⟨by simp [frow], by simp only [frow]; omega⟩
  have e1 : (frow g p).1.toNat = p := by simp [frow]
  by_cases hz : (rankL g).getD p 0 = 0
  · have hgo := (hR.zero p hp).1 hz
    have e2 : (frow g p).2.1 = -1 := by simp only [frow, hz, if_true]
    have e3 : (frow g p).2.2 = 0 := by simp only [frow, hz]
    unfold tGood
    rw [hP, e1, hgo, e2, e3]
    rfl
  · have hgo : g.1.getD p false = false := by
      cases hx : g.1.getD p false with
      | false => rfl
      | true => exact absurd ((hR.zero p hp).2 hx) hz
    obtain ⟨k, hk, h1, h2, -⟩ := hR.first hp (by omega)
    have hfm : (frow g p).2.1 = (g.2.getD p [])[k].1 := by simp only [frow, hz, if_false, h1]
    have hmem := List.getElem_mem hk
    have hmv : tMove g (frow g p).1 (frow g p).2.1 = some (g.2.getD p [])[k] := by
      unfold tMove
      rw [hP, if_pos rfl, e1, hfm]
      exact (mvs_asc hr p).look hmem
    refine good_of hP (by rw [e1]; exact hgo) (by simp only [frow]; omega) hmv fun t ht => ?_
    obtain ⟨-, htb⟩ := mvs_ne hr hmem
    have htb := htb t ht
    obtain ⟨tn, rfl⟩ := Int.eq_ofNat_of_zero_le htb.1
    unfold gdF at h2
    rw [show (g.2.getD p []).getD k (0, []) = (g.2.getD p [])[k] by rw [List.getD, List.getElem?_eq_getElem hk]; rfl] at h2
    simp only [Bool.not_eq_true', List.any_eq_false, Bool.not_eq_true] at h2
    have hb := badF_iff.1 (h2 _ ht)
    simp only [Int.toNat_natCast] at hb
    unfold okTo
    rw [solve_row (by omega) hb.1]
    simp only [frow]
    rw [Bool.and_eq_true]
    exact ⟨decide_eq_true hb.1, decide_eq_true hb.2⟩
theorem rank_least {g : Gm} (hg : GmOK g) {rows : List Row} (hgd : ∀ r ∈ rows, tGood g rows r = true) : ∀ (n : Nat) (r : Row), r ∈ rows → r.2.2.toNat = n → 0 ≤ r.1 ∧ r.1 < g.1.length ∧ 0 ≤ (rankL g).getD r.1.toNat 0 ∧ (rankL g).getD r.1.toNat 0 ≤ r.2.2 := by
  intro n
  induction n using Nat.strongRecOn with
  | ind n ih =>
    intro r hr hn
    have hR := rankL_rk hg
    obtain ⟨hp, h⟩ := good_parts (hgd r hr)
    have hp := isP_iff.1 hp
    have hpn : r.1.toNat < g.1.length := by omega
    refine ⟨hp.1, hp.2, ?_⟩
    rcases h with ⟨h1, h2, h3⟩ | ⟨h1, h2, m, hm, ht⟩
    · have := (hR.zero _ hpn).2 h1
      omega
    · obtain ⟨-, hmm, -⟩ := tMove_mem hm
      have key : ∀ t ∈ m.2, 0 ≤ (rankL g).getD t.toNat 0 ∧ (rankL g).getD t.toNat 0 < r.2.2 := by
        intro t htm
        obtain ⟨x, hx, hx0, hx1⟩ := ht t htm
        obtain ⟨hxm, hxe⟩ := look_mem hx
        have := ih x.2.2.toNat (by omega) x hxm rfl
        simp only [kP] at hxe
        rw [hxe] at this
        omega
      have h0 := hR.all _ m hmm (fun t htm => (key t htm).1)
      refine ⟨h0, ?_⟩
      by_cases hle : (rankL g).getD r.1.toNat 0 ≤ 0
      · omega
      · obtain ⟨t, htm, h3⟩ := hR.dn _ hpn (by omega) m hmm
        have := key t htm
        omega
theorem solved_law {g : Gm} (hg : GmOK g) {rows : List Row} (hgd : ∀ r ∈ rows, tGood g rows r = true) {r : Row} (hr : r ∈ rows) : ∃ x, tRow (solveL g) r.1 = some x ∧ x.2.2 ≤ r.2.2 := by
  obtain ⟨h1, h2, h3, h4⟩ := rank_least hg hgd _ r hr rfl
  have e : r.1 = ((r.1.toNat : Nat) : Int) := by omega
  refine ⟨frow g r.1.toNat, ?_, by simp only [frow]; exact h4⟩
  rw [e]
  exact solve_row (by omega) h3
end Go.Proofs.YtfpehakllnkaeaaDoor
