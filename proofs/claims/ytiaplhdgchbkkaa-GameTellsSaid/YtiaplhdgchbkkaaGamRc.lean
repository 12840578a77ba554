
/- Game: the reference's Ranks: the plain part. -/
import Derived.Test.YtiaplhdgchbkkaaGamRa
set_option linter.unusedSimpArgs false
set_option linter.unusedVariables false
namespace Go.Proofs.Ytiaplhdgchbkkaa
open Go.RowKit Go.IntWalk Go.Shelf

/-- The ranks up to r; none above. -/
def cutR (R : List Int) (r : Int) : List Int := R.map (fun x => if x ≤ r then x else -1)
/-- In the round r, behind the first i positions. -/
def mixR (R : List Int) (r : Int) (i : Nat) : List Int := (cutR R r).take i ++ (cutR R (r - 1)).drop i
theorem cutR_len (R : List Int) (r : Int) : (cutR R r).length = R.length := by simp [cutR]
theorem mixR_len (R : List Int) (r : Int) (i : Nat) (hi : i ≤ R.length) : (mixR R r i).length = R.length := by simp [mixR, cutR_len]; omega
theorem cutR_get (R : List Int) (r : Int) (q : Nat) (hq : q < R.length) : (cutR R r).getD q 0 = if R.getD q 0 ≤ r then R.getD q 0 else -1 := by
  simp [cutR, List.getD, hq]
theorem mixR_get (R : List Int) (r : Int) (i q : Nat) (hi : i ≤ R.length) (hq : q < R.length) : (mixR R r i).getD q 0 = if R.getD q 0 ≤ (if q < i then r else r - 1) then R.getD q 0 else -1 := by
  unfold mixR
  by_cases h : q < i
  · rw [if_pos h, ← cutR_get R r q hq]
    have h1 : q < ((cutR R r).take i).length := by simp [cutR_len]; omega
    rw [List.getD, List.getElem?_append_left h1, List.getElem?_take_of_lt h]; rfl
  · rw [if_neg h, ← cutR_get R (r - 1) q hq]
    have h1 : ((cutR R r).take i).length = i := by simp [cutR_len]; omega
    rw [List.getD, List.getElem?_append_right (by omega), h1, List.getElem?_drop, show i + (q - i) = q by omega]; rfl
theorem mixR_zero (R : List Int) (r : Int) : mixR R r 0 = cutR R (r - 1) := by simp [mixR]
theorem mixR_end (R : List Int) (r : Int) : mixR R r R.length = cutR R r := by
  have h : R.length = (cutR R r).length := (cutR_len R r).symm
  have h2 : R.length = (cutR R (r - 1)).length := (cutR_len R (r - 1)).symm
  unfold mixR
  conv => lhs; rw [show (cutR R r).take R.length = cutR R r by rw [h, List.take_length], show (cutR R (r - 1)).drop R.length = [] by rw [h2, List.drop_length]]
  simp
theorem list_ext_getD {a b : List Int} (hl : a.length = b.length) (h : ∀ q, q < a.length → a.getD q 0 = b.getD q 0) : a = b := by
  apply List.ext_getElem hl
  intro q h1 h2
  have := h q h1
  simpa [List.getD, h1, h2] using this
/-- A move leads to positions of ranks up to r - 1: the same in the mixed ranks. -/
theorem within_mix {R : List Int} {r : Int} {i : Nat} {tos : List Int} (hi : i ≤ R.length) (hr : ∀ t ∈ tos, 0 ≤ t ∧ t < R.length) (h0 : 0 ≤ r) : withinL (mixR R r i) tos (r - 1) = withinL R tos (r - 1) := by
  unfold withinL
  rw [Bool.eq_iff_iff, List.all_eq_true, List.all_eq_true]
  have key : ∀ t ∈ tos, (decide (0 ≤ (mixR R r i).getD t.toNat 0) && decide ((mixR R r i).getD t.toNat 0 ≤ r - 1)) = (decide (0 ≤ R.getD t.toNat 0) && decide (R.getD t.toNat 0 ≤ r - 1)) := fun t ht => by
    obtain ⟨h1, h2⟩ := hr t ht
    rw [mixR_get R r i t.toNat hi (by omega)]
    generalize R.getD t.toNat 0 = v
    rw [Bool.eq_iff_iff]
    simp only [Bool.and_eq_true, decide_eq_true_eq]
    by_cases hq : t.toNat < i
    · rw [if_pos hq]
      split <;> omega
    · rw [if_neg hq]
      split <;> omega
  constructor
  · intro h t ht; rw [← key t ht]; exact h t ht
  · intro h t ht; rw [key t ht]; exact h t ht
/-- A position that has no rank up to r - 1 has the rank r exactly if one of its moves leads to such positions. -/
theorem rank_here {g : Gm} (hg : GmOK g) {R : List Int} (h : Rk g R) {p : Nat} (hp : p < g.1.length) {r : Int} (hr : 1 ≤ r) (hn : R.getD p 0 < 0 ∨ r - 1 < R.getD p 0) : (∃ m ∈ g.2.getD p [], withinL R m.2 (r - 1) = true) ↔ R.getD p 0 = r := by
  constructor
  · rintro ⟨m, hm, hw⟩
    unfold withinL at hw
    rw [List.all_eq_true] at hw
    have hw' : ∀ t ∈ m.2, 0 ≤ R.getD t.toNat 0 ∧ R.getD t.toNat 0 ≤ r - 1 := fun t ht => by simpa using hw t ht
    have h0 := h.all p m hm (fun t ht => (hw' t ht).1)
    have h1 : 1 ≤ R.getD p 0 := by omega
    obtain ⟨t, ht, hd⟩ := h.dn p hp h1 m hm
    have := hw' t ht
    omega
  · intro e
    obtain ⟨m, hm, hu⟩ := h.up p hp (by omega)
    refine ⟨m, hm, ?_⟩
    unfold withinL
    rw [List.all_eq_true]
    intro t ht
    have := hu t ht
    simp only [Bool.and_eq_true, decide_eq_true_eq]
    omega
theorem mixR_step {R : List Int} {r : Int} {i : Nat} (hi : i < R.length) : mixR R r (i + 1) = (mixR R r i).set i (if R.getD i 0 ≤ r then R.getD i 0 else -1) := by
  have hl : (mixR R r i).length = R.length := mixR_len R r i (by omega)
  apply list_ext_getD
  · rw [List.length_set, hl, mixR_len R r (i + 1) (by omega)]
  · intro q hq
    rw [mixR_len R r (i + 1) (by omega)] at hq
    rw [mixR_get R r (i + 1) q (by omega) hq]
    by_cases e : q = i
    · subst e
      rw [getD_set_ _ _ _ _ _ (by omega), if_pos (show q < q + 1 by omega), if_pos rfl]
    · rw [getD_setn _ _ _ _ _ e, mixR_get R r i q (by omega) hq]
      by_cases hq2 : q < i
      · rw [if_pos hq2, if_pos (show q < i + 1 by omega)]
      · rw [if_neg hq2, if_neg (show ¬ q < i + 1 by omega)]
/-- No gap: if no position has the rank r, none has a greater one. -/
theorem rank_gap {g : Gm} (hg : GmOK g) {R : List Int} (h : Rk g R) {r : Int} (hr : 1 ≤ r) (hno : ∀ p, p < g.1.length → R.getD p 0 ≠ r) : ∀ (d : Nat) (p : Nat), p < g.1.length → R.getD p 0 ≠ r + d
  | 0, p, hp => by simpa using hno p hp
  | d + 1, p, hp => by
    intro e
    obtain ⟨m, hm, hu⟩ := h.up p hp (by omega)
    obtain ⟨t, ht, hd⟩ := h.dn p hp (by omega) m hm
    have h1 := hu t ht
    have hpm : p < g.2.length := by have := hg.n; omega
    have hgk : g.2.getD p [] = g.2[p] := by rw [List.getD, List.getElem?_eq_getElem hpm]; rfl
    have h2 := (hg.m _ (by rw [hgk]; exact List.getElem_mem hpm) m hm).2.2.2 t ht
    exact rank_gap hg h hr hno d t.toNat (by omega) (by omega)
theorem cut_done {g : Gm} (hg : GmOK g) {R : List Int} (h : Rk g R) {r : Int} (hr : 1 ≤ r) (hno : ∀ p, p < g.1.length → R.getD p 0 ≠ r) : cutR R r = R := by
  apply list_ext_getD (cutR_len R r)
  intro q hq
  rw [cutR_len] at hq
  rw [cutR_get R r q hq]
  have hqg : q < g.1.length := by have := h.len; omega
  by_cases hc : R.getD q 0 ≤ r
  · rw [if_pos hc]
  · exfalso
    have := rank_gap hg h hr hno (R.getD q 0 - r).toNat q hqg
    omega
theorem cut_all {R : List Int} {r : Int} (h : ∀ q, q < R.length → R.getD q 0 ≤ r) : cutR R r = R := by
  apply list_ext_getD (cutR_len R r)
  intro q hq
  rw [cutR_len] at hq
  rw [cutR_get R r q hq, if_pos (h q hq)]
theorem cut_start {g : Gm} {R : List Int} (h : Rk g R) : cutR R 0 = g.1.map (fun b => if b then 0 else -1) := by
  apply list_ext_getD
  · rw [cutR_len, h.len, List.length_map]
  · intro q hq
    rw [cutR_len] at hq
    have hqg : q < g.1.length := by have := h.len; omega
    rw [cutR_get R 0 q hq]
    have hz := h.zero q hqg
    have hl := h.lo q hqg
    have e : (g.1.map (fun b => if b then (0 : Int) else -1)).getD q 0 = if g.1.getD q false = true then 0 else -1 := by simp [List.getD, hqg]
    rw [e]
    by_cases hb : g.1.getD q false = true
    · rw [if_pos hb, hz.2 hb]; rfl
    · rw [if_neg hb]
      have : R.getD q 0 ≠ 0 := fun e => hb (hz.1 e)
      split <;> omega
end Go.Proofs.Ytiaplhdgchbkkaa
