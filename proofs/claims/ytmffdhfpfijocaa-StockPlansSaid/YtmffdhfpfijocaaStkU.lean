
/- Stock: the plain law of StockRecalls. -/
import Derived.Test.YtmffdhfpfijocaaStkT
set_option linter.unusedSimpArgs false
set_option linter.unusedVariables false
namespace Go.Proofs.Ytmffdhfpfijocaa
open Go.RowKit Go.IntWalk

/-- The lots with lot k frozen. -/
def frz (lots : List Lt) (k : Nat) : List Lt := lots.set k ((lots.getD k (0, 0, false)).1, (lots.getD k (0, 0, false)).2.1, true)
theorem frz_len (lots : List Lt) (k : Nat) : (frz lots k).length = lots.length := by simp [frz]
theorem rec_frz {lots : List Lt} {k : Nat} (h : k < lots.length) : recL lots (k : Int) = (frz lots k, 0) := by unfold recL frz; rw [if_pos ⟨by omega, by omega⟩]; rfl
theorem frz_frz {lots : List Lt} {k : Nat} (h : k < lots.length) : frz (frz lots k) k = frz lots k := by
  unfold frz
  simp [h]
theorem frz_at {lots : List Lt} {k i : Nat} (h : k < lots.length) (d : Lt) : (frz lots k).getD i d = if i = k then ((lots.getD k (0, 0, false)).1, (lots.getD k (0, 0, false)).2.1, true) else lots.getD i d := by
  unfold frz
  by_cases e : i = k
  · subst e; simp [h]
  · simp [e, List.getElem?_set_ne (fun e' => e e'.symm)]
theorem frz_fit {lots : List Lt} {k : Nat} (h : k < lots.length) (w : Wt) : fitF ((frz lots k).getD k (0, 0, false)) w = false := by
  rw [frz_at h, if_pos rfl]; simp [fitF]
theorem frz_has {lots : List Lt} {k : Nat} (h : k < lots.length) (w : Wt) (b : Bx) : hasF (frz lots k) w b = (hasF lots w b && !decide (b.1 = (k : Int))) := by
  unfold hasF lotAt
  rw [frz_len, frz_at h]
  by_cases h0 : 0 ≤ b.1
  · by_cases e : b.1 = (k : Int)
    · have : b.1.toNat = k := by omega
      rw [if_pos this]
      simp [fitF, e]
    · have : b.1.toNat ≠ k := by omega
      rw [if_neg this]
      simp [e]
  · simp [h0]
/-- What a recall takes from a supply. -/
def goneL (lots : List Lt) (bs : List Bx) (w : Wt) (k : Int) : Int := sumI ((bs.filter (fun b => decide (b.1 = k) && hasF lots w b)).map (fun b => b.2.1))
theorem goneL_take {lots : List Lt} {bs : List Bx} {w : Wt} {n : Int} {k : Nat} (h : k < bs.length) : goneL lots (bs.take (k + 1)) w n = goneL lots (bs.take k) w n + if decide (bs[k].1 = n) && hasF lots w bs[k] then bs[k].2.1 else 0 := by
  unfold goneL
  rw [List.take_add_one, List.getElem?_eq_getElem h, Option.toList_some, List.filter_append, List.map_append, sumI_app]
  by_cases hx : (decide (bs[k].1 = n) && hasF lots w bs[k]) = true
  · rw [if_pos hx]; simp only [List.filter_cons, hx, if_true, List.filter_nil]; simp [sumI]
  · rw [if_neg hx]; simp only [List.filter_cons, hx, List.filter_nil]; simp [sumI]
theorem frz_supply {lots : List Lt} {k : Nat} (h : k < lots.length) (bs : List Bx) (w : Wt) : supplyL (frz lots k) bs w = supplyL lots bs w - goneL lots bs w k := by
  have key : ∀ n, n ≤ bs.length → supplyL (frz lots k) (bs.take n) w = supplyL lots (bs.take n) w - goneL lots (bs.take n) w k := by
    intro n
    induction n with
    | zero => intro _; simp [supplyL, goneL, sumI]
    | succ n ih =>
      intro hn
      have := ih (by omega)
      rw [supplyL_take (by omega), supplyL_take (by omega), goneL_take (by omega), frz_has h, this]
      cases hasF lots w bs[n] <;> by_cases e : bs[n].1 = (k : Int) <;> simp [e] <;> omega
  have := key bs.length (Nat.le_refl _)
  rwa [List.take_length] at this
theorem frz_right {ks : List Kd} {lots : List Lt} {bs : List Bx} {k : Nat} (h : k < lots.length) (hr : rightS ks lots bs = true) : rightS ks (frz lots k) bs = true := by
  unfold rightS at *
  rw [frz_len]
  simp only [Bool.and_eq_true] at hr ⊢
  refine ⟨⟨⟨hr.1.1.1, ?_⟩, hr.1.2⟩, hr.2⟩
  have hl := List.all_eq_true.1 hr.1.1.2
  refine List.all_eq_true.2 fun x hx => ?_
  rcases List.mem_or_eq_of_mem_set hx with hx | rfl
  · exact hl x hx
  · have := hl _ (List.getElem_mem h)
    simpa [lotF, h] using this
theorem exp_fit {lots : List Lt} {t : Int} {i : Nat} (h : i ∈ expK lots t lots.length) (w : Wt) : i < lots.length ∧ fitF (lots.getD i (0, 0, false)) (w.1, w.2.1, max w.2.2 t) = false := by
  simp only [expK, List.mem_filter, List.mem_range, decide_eq_true_eq] at h
  refine ⟨h.1, ?_⟩
  have h2 := h.2
  generalize lots.getD i (0, 0, false) = x at *
  have : ¬ max w.2.2 t ≤ x.2.1 := by omega
  simp [fitF, this]
end Go.Proofs.Ytmffdhfpfijocaa
