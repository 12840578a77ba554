
/- Petri, plain: what a firing does to the weight of a marking. -/
import Derived.Test.YtbbogflibekgfaaDoorPetKp
import Derived.Test.YtbbogflibekgfaaDoorPetN
import Derived.Test.YtbbogflibekgfaaDoorPetK
set_option linter.unusedSimpArgs false
set_option linter.unusedVariables false
namespace Go.Proofs.YtbbogflibekgfaaDoor
open Go.RowKit Go.IntWalk

theorem weightN_set (d : Int) : ∀ (m ws : List Int) (p : Nat), p < m.length → p < ws.length → weightN (m.set p (m.getD p 0 + d)) ws = weightN m ws + d * ws.getD p 0
  | x :: m, y :: ws, 0, _, _ => by
    simp only [weightN, List.set_cons_zero, List.zip_cons_cons, List.map_cons, List.sum_cons, List.getD_cons_zero, Int.add_mul]
    omega
  | x :: m, y :: ws, p + 1, h1, h2 => by
    have ih := weightN_set d m ws p (by simpa using h1) (by simpa using h2)
    simp only [weightN, List.set_cons_succ, List.zip_cons_cons, List.map_cons, List.sum_cons, List.getD_cons_succ] at ih ⊢
    omega
theorem weightN_add (d : Int) (ws : List Int) : ∀ (s m : List Int), (∀ p ∈ s, 0 ≤ p ∧ p < m.length) → m.length = ws.length → weightN (addN d m s) ws = weightN m ws + d * sumN ws s
  | [], m, _, _ => by simp [addN, sumN]
  | p :: s, m, hs, hl => by
    have hp := hs p (List.mem_cons_self ..)
    have ih := weightN_add d ws s (m.set p.toNat (m.getD p.toNat 0 + d)) (fun q hq => by rw [List.length_set]; exact hs q (List.mem_cons_of_mem _ hq)) (by rw [List.length_set]; exact hl)
    rw [show addN d m (p :: s) = addN d (m.set p.toNat (m.getD p.toNat 0 + d)) s from rfl, ih, weightN_set d m ws p.toNat (by omega) (by omega)]
    simp only [sumN, List.map_cons, List.sum_cons, Int.mul_add]
    omega
def stepN (m : List Int) (t : Tr) : List Int := addN 1 (addN (-1) m t.1) t.2
theorem step_weight {N : Nat} {T : List Tr} {ws m : List Int} {t : Tr} (hok : netOK ((N : Int), T) = true) (ht : t ∈ T) (hm : m.length = N) (hw : ws.length = N) : weightN (stepN m t) ws = weightN m ws - sumN ws t.1 + sumN ws t.2 := by
  obtain ⟨s1, s2⟩ := net_sets hok ht
  unfold stepN
  rw [weightN_add 1 ws t.2 _ (fun p hp => by rw [addN_len]; have := setB_mem s2 p hp; omega) (by rw [addN_len]; omega), weightN_add (-1) ws t.1 m (fun p hp => by have := setB_mem s1 p hp; omega) (by omega)]
  omega
theorem fired_eq {N : Nat} {T : List Tr} {m : List Int} {q : Int} (h : (fireN N T m q).2 = 0) : ∃ t ∈ T, (fireN N T m q).1 = stepN m t ∧ markOK ((N : Int), T) (fireN N T m q).1 = true := by
  unfold fireN at h ⊢
  split at h
  · cases h
  · rename_i hq
    rw [if_neg hq]
    split at h
    · cases h
    · rename_i he
      rw [if_neg he]
      split at h
      · rename_i hm
        rw [if_pos hm]
        have hql : q.toNat < T.length := by omega
        have hT : T.getD q.toNat ([], []) = T[q.toNat] := by rw [List.getD_eq_getElem?_getD, List.getElem?_eq_getElem hql]; rfl
        rw [hT] at hm ⊢
        exact ⟨T[q.toNat], List.getElem_mem hql, rfl, hm⟩
      · cases h
def unbal (ws : List Int) (t : Tr) : Bool := decide (sumN ws t.1 ≠ sumN ws t.2)
def invN (T : List Tr) (ws : List Int) : Bool := !T.any (unbal ws)
theorem inv_weight {N : Nat} {T : List Tr} {ws m : List Int} {q : Int} (hok : netOK ((N : Int), T) = true) (hi : invN T ws = true) (hm : m.length = N) (hw : ws.length = N) (h : (fireN N T m q).2 = 0) : weightN (fireN N T m q).1 ws = weightN m ws ∧ markOK ((N : Int), T) (fireN N T m q).1 = true := by
  obtain ⟨t, ht, e, hk⟩ := fired_eq h
  refine ⟨?_, hk⟩
  rw [e, step_weight hok ht hm hw]
  simp only [invN, Bool.not_eq_true', List.any_eq_false, unbal, decide_eq_true_eq, ne_eq, Classical.not_not] at hi
  have := hi t ht
  omega
/-! ### One mark in each place -/
def onesN (N : Nat) : List Int := List.replicate N 1
theorem fire_ones {N : Nat} {T : List Tr} (hok : netOK ((N : Int), T) = true) (k : Nat) (hk : k < T.length) : fireN N T (onesN N) (k : Int) = (stepN (onesN N) T[k], 0) ∧ markOK ((N : Int), T) (stepN (onesN N) T[k]) = true := by
  obtain ⟨s1, s2⟩ := net_sets hok (List.getElem_mem hk)
  have hol : (onesN N).length = N := by unfold onesN; rw [List.length_replicate]
  have hT : T.getD (k : Int).toNat ([], []) = T[k] := by rw [Int.toNat_natCast, List.getD_eq_getElem?_getD, List.getElem?_eq_getElem hk]; rfl
  have h1 : ∀ p : Int, 0 ≤ p → p < N → (onesN N).getD p.toNat 0 = 1 := fun p h0 hp => by
    unfold onesN
    rw [List.getD_eq_getElem?_getD, List.getElem?_replicate, if_pos (by omega)]
    rfl
  have hen : enN T (onesN N) (k : Int) = true := by
    unfold enN
    rw [hT]
    simp only [Bool.and_eq_true, decide_eq_true_eq, Bool.not_eq_true', List.any_eq_false]
    refine ⟨⟨by omega, by omega⟩, fun p hp => ?_⟩
    have := setB_mem s1 p hp
    simp only [lowF, decide_eq_true_eq]
    rw [h1 p this.1 this.2]
    omega
  have hmk : markOK ((N : Int), T) (stepN (onesN N) T[k]) = true := by
    unfold markOK stepN
    simp only [Bool.and_eq_true, decide_eq_true_eq, List.all_eq_true]
    refine ⟨by rw [addN_len, addN_len, hol], fun x hx => ?_⟩
    obtain ⟨i, hi, rfl⟩ := List.getElem_of_mem hx
    have hil : i < N := by rw [addN_len, addN_len, hol] at hi; exact hi
    have hg : (addN 1 (addN (-1) (onesN N) T[k].1) T[k].2)[i] = (addN 1 (addN (-1) (onesN N) T[k].1) T[k].2).getD i 0 := by rw [List.getD_eq_getElem?_getD, List.getElem?_eq_getElem hi]; rfl
    rw [hg, addN_get 1 _ _ (setB_pw s2) (fun p hp => by rw [addN_len, hol]; have := setB_mem s2 p hp; omega) i, addN_get (-1) _ _ (setB_pw s1) (fun p hp => by rw [hol]; have := setB_mem s1 p hp; omega) i]
    have := h1 (i : Int) (by omega) (by omega)
    rw [Int.toNat_natCast] at this
    rw [this]
    split <;> split <;> omega
  refine ⟨?_, hmk⟩
  unfold fireN
  rw [if_neg (by omega), hen, hT]
  simp only [Bool.true_eq_false, if_false]
  exact if_pos hmk
/-- A weighting that is no invariant: some transition changes the weight of the marking with one mark in each place. -/
theorem unbal_ones {N : Nat} {T : List Tr} {ws : List Int} (hok : netOK ((N : Int), T) = true) (hw : ws.length = N) (k : Nat) (hk : k < T.length) : unbal ws T[k] = decide (weightN (fireN N T (onesN N) (k : Int)).1 ws ≠ weightN (onesN N) ws) := by
  rw [(fire_ones hok k hk).1, step_weight hok (List.getElem_mem hk) (by unfold onesN; rw [List.length_replicate]) hw]
  unfold unbal
  refine decide_eq_decide.2 ?_
  omega
theorem wt_parts {n : Int} {ws : List Int} (h : wtOK n ws = true) : (ws.length : Int) = n ∧ ∀ x ∈ ws, -100000 ≤ x ∧ x ≤ 100000 := by
  unfold wtOK at h
  simp only [Bool.and_eq_true, decide_eq_true_eq, List.all_eq_true] at h
  refine ⟨h.2, fun x hx => ?_⟩
  have := h.1 x hx
  simp only [wtF, Bool.and_eq_true, decide_eq_true_eq] at this
  omega
end Go.Proofs.YtbbogflibekgfaaDoor
