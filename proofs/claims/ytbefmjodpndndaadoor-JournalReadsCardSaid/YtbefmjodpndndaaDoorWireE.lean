
/- Wire: values; 'few'. -/
import Derived.Test.YtbefmjodpndndaaDoorWireD
set_option linter.unusedSimpArgs false
set_option linter.unusedVariables false
namespace Go.Proofs.YtbefmjodpndndaaDoor
open Go.RowKit Go.IntWalk

abbrev Val := Int × Int × ByteArray × List Int × List ByteArray
theorem val_rep {w : World} {B : Nat} {es : List Value} {v : Val} (h : Rep.rep w B es v) : ∃ A1 c1 A2 c2, es = [.int .i64 v.1, .int .i64 v.2.1, .string v.2.2.1, .slice A1 v.2.2.2.1.length c1, .slice A2 v.2.2.2.2.length c2] ∧ I64 v.1 ∧ I64 v.2.1 ∧ v.2.2.1.size ≤ maxLen ∧
    v.2.2.2.1.length ≤ c1 ∧ c1 ≤ maxLen ∧ SlR w B A1 v.2.2.2.1 ∧ v.2.2.2.2.length ≤ c2 ∧ c2 ≤ maxLen ∧ SlR w B A2 v.2.2.2.2 := by
  obtain ⟨e1, e2, rfl, _, _, ⟨rfl, h1⟩, e3, e4, rfl, _, _, ⟨rfl, h2⟩, e5, e6, rfl, _, _, ⟨rfl, h3⟩, e7, e8, rfl, _, _, ⟨A1, c1, rfl, h4, h5, h6⟩, A2, c2, rfl, h7, h8, h9⟩ := h
  exact ⟨A1, c1, A2, c2, rfl, h1, h2, h3, h4, h5, h6, h7, h8, h9⟩
theorem SlR.val {w : World} {B : Nat} {A : Option Addr} {l : List Val} (h : SlR w B A l) {k : Nat} (hk : k < l.length) : ∃ b off A1 c1 A2 c2, A = some ⟨b, off, none⟩ ∧ b < B ∧
    w.cell? ⟨b, off + k * 5 + 2, none⟩ = some (.string l[k].2.2.1) ∧ w.cell? ⟨b, off + k * 5 + 3, none⟩ = some (.slice A1 l[k].2.2.2.1.length c1) ∧ w.cell? ⟨b, off + k * 5 + 4, none⟩ = some (.slice A2 l[k].2.2.2.2.length c2) ∧
    l[k].2.2.1.size ≤ maxLen ∧ l[k].2.2.2.1.length ≤ maxLen ∧ l[k].2.2.2.2.length ≤ maxLen ∧ SlR w B A1 l[k].2.2.2.1 ∧ SlR w B A2 l[k].2.2.2.2 := by
  obtain ⟨b, off, es, hA, hb, hs, hc, hr⟩ := h k _ (List.getElem?_eq_getElem hk)
  obtain ⟨A1, c1, A2, c2, rfl, _, _, h3, h4, h5, h6, h7, h8, h9⟩ := val_rep hr
  have h5' : Rep.size Val = 5 := rfl
  rw [h5'] at hc
  exact ⟨b, off, A1, c1, A2, c2, hA, hb, hc 2 _ rfl, hc 3 _ rfl, hc 4 _ rfl, h3, Nat.le_trans h4 h5, Nat.le_trans h7 h8, h6, h9⟩

def sumS (l : List ByteArray) : Nat := (l.map (·.size)).sum
def tot (v : Val) : Nat := v.2.2.1.size + v.2.2.2.1.length + v.2.2.2.2.length + sumS v.2.2.2.2
structure Ok (v : Val) : Prop where
  l : v.2.2.2.1.length ≤ 400
  t : v.2.2.2.2.length ≤ 400
  s : v.2.2.1.size ≤ 400
  e : ∀ x ∈ v.2.2.2.2, x.size ≤ 400
/-- Few values. -/
structure Few (l : List Val) : Prop where
  n : l.length ≤ 20
  o : ∀ v ∈ l, Ok v
  t : (l.map tot).sum ≤ 400
open Classical in
noncomputable def fewB (l : List Val) : Bool := decide (Few l)
theorem fewB_no {l : List Val} (h : ¬ Few l) : fewB l = false := by simp [fewB, h]
theorem fewB_yes {l : List Val} (h : Few l) : fewB l = true := by simp [fewB, h]
theorem sumS_step (l : List ByteArray) (k : Nat) (h : k < l.length) : sumS (l.take (k + 1)) = sumS (l.take k) + l[k].size := by
  rw [List.take_add_one, List.getElem?_eq_getElem h]
  unfold sumS
  rw [List.map_append, List.sum_append]
  show _ + ([l[k].size].sum) = _
  simp
theorem sumS_le {l : List ByteArray} (k : Nat) (h : ∀ x ∈ l.take k, x.size ≤ 400) : sumS (l.take k) ≤ k * 400 := by
  induction k with
  | zero => simp [sumS]
  | succ k ih =>
    rcases Nat.lt_or_ge k l.length with hk | hk
    · rw [sumS_step l k hk]
      have h1 := ih (fun x hx => h x (List.mem_of_mem_take (i := k) (by rw [List.take_take, Nat.min_eq_left (Nat.le_succ k)]; exact hx)))
      have h2 := h l[k] (by rw [List.take_add_one, List.getElem?_eq_getElem hk]; exact List.mem_append_right _ (List.mem_singleton.2 rfl))
      omega
    · have e1 : l.take (k + 1) = l := List.take_of_length_le (Nat.le_succ_of_le hk)
      have e2 : l.take k = l := List.take_of_length_le hk
      rw [e1] at h
      rw [e2] at ih
      rw [e1]
      exact Nat.le_trans (ih h) (by rw [Nat.succ_mul]; exact Nat.le_add_right _ _)
theorem tot_step (l : List Val) (k : Nat) (h : k < l.length) : ((l.take (k + 1)).map tot).sum = ((l.take k).map tot).sum + tot l[k] := by
  rw [List.take_add_one, List.getElem?_eq_getElem h, List.map_append, List.sum_append]
  show _ + ([tot l[k]].sum) = _
  simp
theorem tot_le {v : Val} (h : Ok v) : tot v ≤ 161200 := by
  have := sumS_le (l := v.2.2.2.2) v.2.2.2.2.length (fun x hx => h.e x (List.mem_of_mem_take hx))
  rw [List.take_length] at this
  have := h.l; have := h.t; have := h.s
  unfold tot
  omega

end Go.Proofs.YtbefmjodpndndaaDoor
