
/- Layouts, shifts, plain: the shifts from cells with a shelf, or without one, to others. -/
import Derived.Test.YtbelaeellcnpmaaLshE
set_option linter.unusedSimpArgs false
set_option linter.unusedVariables false
namespace Go.Proofs.Ytbelaeellcnpmaa
open Go.RowKit Go.IntWalk Go.Shelf

/-- The shift from i in the direction d, if there is one. -/
def stepS (W H D : Int) (kind out r : List Int) (l : List Bool) (full : Bool) (i d : Nat) : Option Sh :=
  match nextL W H D kind out (r.getD i 0) (d : Int) with
  | none => none
  | some c => if r.contains c = true ∧ l.getD (r.countP (fun y => decide (y < c))) full ≠ full then some ((i : Int), (r.countP (fun y => decide (y < c)) : Nat)) else none
def rowS (W H D : Int) (kind out r : List Int) (l : List Bool) (full : Bool) (i m : Nat) : List Sh := (List.range m).filterMap (stepS W H D kind out r l full i)
def allS (W H D : Int) (kind out r : List Int) (l : List Bool) (full : Bool) (k : Nat) : List Sh := (List.range k).flatMap (fun i => if l.getD i (!full) = full then rowS W H D kind out r l full i 6 else [])
section
variable {W H D : Int} {kind out r : List Int} {l : List Bool} {full : Bool}
theorem rowS_succ (i m : Nat) : rowS W H D kind out r l full i (m + 1) = rowS W H D kind out r l full i m ++ (stepS W H D kind out r l full i m).toList := by
  unfold rowS
  rw [List.range_succ, List.filterMap_append]
  cases h : stepS W H D kind out r l full i m <;> simp [h]
theorem allS_succ (k : Nat) : allS W H D kind out r l full (k + 1) = allS W H D kind out r l full k ++ (if l.getD k (!full) = full then rowS W H D kind out r l full k 6 else []) := by
  unfold allS
  rw [List.range_succ, List.flatMap_append]
  simp
theorem rowS_len (i m : Nat) : (rowS W H D kind out r l full i m).length ≤ m := by
  unfold rowS
  exact Nat.le_trans (List.length_filterMap_le _ _) (by simp)
theorem allS_len (k : Nat) : (allS W H D kind out r l full k).length ≤ k * 6 := by
  induction k with
  | zero => simp [allS]
  | succ k ih =>
    rw [allS_succ, List.length_append]
    have := rowS_len (W := W) (H := H) (D := D) (kind := kind) (out := out) (r := r) (l := l) (full := full) k 6
    split
    · omega
    · simp; omega
/-- What a shift of the list is. -/
structure ShOK (W H D : Int) (kind out r : List Int) (l : List Bool) (full : Bool) (x : Sh) (a b : Nat) : Prop where
  eq : x = ((a : Int), (b : Int))
  al : a < l.length
  bl : b < l.length
  ar : a < r.length
  br : b < r.length
  fa : l.getD a (!full) = full
  fb : l.getD b full ≠ full
  way : ∃ d : Nat, d < 6 ∧ nextL W H D kind out (r.getD a 0) (d : Int) = some (r.getD b 0)
theorem stepS_some {i d : Nat} {x : Sh} (hr : r.Pairwise (· < ·)) (h : stepS W H D kind out r l full i d = some x) : ∃ b : Nat, x = ((i : Int), (b : Int)) ∧ b < r.length ∧ l.getD b full ≠ full ∧ nextL W H D kind out (r.getD i 0) (d : Int) = some (r.getD b 0) := by
  unfold stepS at h
  split at h
  · cases h
  · rename_i c hc
    split at h
    · rename_i hq
      injection h with h
      obtain ⟨k, hk, hkc⟩ := List.getElem_of_mem (List.contains_iff_mem.1 hq.1)
      have hcount := count_at hr k hk
      rw [hkc] at hcount
      rw [hcount] at h hq
      refine ⟨k, h.symm, hk, hq.2, ?_⟩
      rw [hc, List.getD_eq_getElem?_getD, List.getElem?_eq_getElem hk, Option.getD_some, hkc]
    · cases h
theorem stepS_of {i d b : Nat} (hr : r.Pairwise (· < ·)) (hb : b < r.length) (hf : l.getD b full ≠ full) (hn : nextL W H D kind out (r.getD i 0) (d : Int) = some (r.getD b 0)) : stepS W H D kind out r l full i d = some ((i : Int), (b : Int)) := by
  have hg : r.getD b 0 = r[b] := by rw [List.getD_eq_getElem?_getD, List.getElem?_eq_getElem hb]; rfl
  unfold stepS
  rw [hn]
  simp only
  rw [hg, count_at hr b hb, if_pos ⟨List.contains_iff_mem.2 (List.getElem_mem hb), hf⟩]
theorem allS_mem {k : Nat} {x : Sh} (hr : r.Pairwise (· < ·)) (hlr : r.length = l.length) (hk : k = r.length) : x ∈ allS W H D kind out r l full k ↔ ∃ a b, ShOK W H D kind out r l full x a b := by
  subst hk
  unfold allS
  rw [List.mem_flatMap]
  constructor
  · rintro ⟨a, ha, hx⟩
    rw [List.mem_range] at ha
    split at hx
    · rename_i hfa
      obtain ⟨d, hd, hs⟩ := List.mem_filterMap.1 hx
      rw [List.mem_range] at hd
      obtain ⟨b, e, hb, hfb, hn⟩ := stepS_some hr hs
      exact ⟨a, b, e, by omega, by omega, ha, hb, hfa, hfb, d, hd, hn⟩
    · cases hx
  · rintro ⟨a, b, h⟩
    obtain ⟨d, hd, hn⟩ := h.way
    refine ⟨a, List.mem_range.2 h.ar, ?_⟩
    rw [if_pos h.fa]
    exact List.mem_filterMap.2 ⟨d, List.mem_range.2 hd, by rw [h.eq]; exact stepS_of hr h.br h.fb hn⟩
theorem next_beside {c d n : Int} (h : nextL W H D kind out c d = some n) : besideL W H D c d = n ∧ 0 ≤ n := by
  unfold nextL at h
  by_cases hb : besideL W H D c d < 0
  · rw [if_pos hb] at h; cases h
  · rw [if_neg hb] at h
    split at h
    · cases h
    split at h
    · cases h
    split at h
    · cases h
    split at h
    · cases h
    injection h with h
    omega
theorem rowS_nodup (hs : RS W H D) (hr : r.Pairwise (· < ·)) (i m : Nat) : (rowS W H D kind out r l full i m).Nodup := by
  induction m with
  | zero => simp [rowS]
  | succ m ih =>
    rw [rowS_succ]
    cases hq : stepS W H D kind out r l full i m with
    | none => simpa using ih
    | some x =>
      refine List.nodup_append.2 ⟨ih, by simp, fun y hy z hz => ?_⟩
      simp only [Option.toList_some, List.mem_singleton] at hz
      subst hz
      obtain ⟨d, hd, hsd⟩ := List.mem_filterMap.1 hy
      rw [List.mem_range] at hd
      intro e
      subst e
      obtain ⟨b, e1, hb1, _, hn1⟩ := stepS_some hr hq
      obtain ⟨b', e2, hb2, _, hn2⟩ := stepS_some hr hsd
      have hbb : b = b' := by
        have := e1.symm.trans e2
        injection this with _ h2
        omega
      subst hbb
      obtain ⟨q1, q0⟩ := next_beside hn1
      obtain ⟨q2, _⟩ := next_beside hn2
      have := beside_inj hs q1 q2 q0
      omega
theorem rowS_fst {i m : Nat} {x : Sh} (hr : r.Pairwise (· < ·)) (h : x ∈ rowS W H D kind out r l full i m) : x.1 = i := by
  obtain ⟨d, _, hs⟩ := List.mem_filterMap.1 h
  obtain ⟨b, e, _⟩ := stepS_some hr hs
  rw [e]
theorem allS_nodup (hs : RS W H D) (hr : r.Pairwise (· < ·)) (k : Nat) : (allS W H D kind out r l full k).Nodup := by
  induction k with
  | zero => simp [allS]
  | succ k ih =>
    rw [allS_succ]
    refine List.nodup_append.2 ⟨ih, ?_, fun y hy z hz => ?_⟩
    · split
      · exact rowS_nodup hs hr k 6
      · simp
    · intro e
      subst e
      obtain ⟨a, ha, hx⟩ := List.mem_flatMap.1 hy
      rw [List.mem_range] at ha
      split at hx
      · split at hz
        · have h1 := rowS_fst hr hx
          have h2 := rowS_fst hr hz
          omega
        · cases hz
      · cases hx
theorem allS_in (hr : r.Pairwise (· < ·)) (hlr : r.length = l.length) (h24 : l.length ≤ 24) {k : Nat} (hk : k ≤ 24) : ∀ x ∈ allS W H D kind out r l full k, (0 ≤ x.1 ∧ x.1 ≤ 1000) ∧ 0 ≤ x.2 ∧ x.2 ≤ 1000 := by
  intro x hx
  obtain ⟨a, ha, hx⟩ := List.mem_flatMap.1 hx
  rw [List.mem_range] at ha
  split at hx
  · obtain ⟨d, _, hs⟩ := List.mem_filterMap.1 hx
    obtain ⟨b, e, hb, _⟩ := stepS_some hr hs
    rw [e]
    exact ⟨⟨by simp, by simp; omega⟩, by simp, by simp; omega⟩
  · cases hx
end
end Go.Proofs.Ytbelaeellcnpmaa
