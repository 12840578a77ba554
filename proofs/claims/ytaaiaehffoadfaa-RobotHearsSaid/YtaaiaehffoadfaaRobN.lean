/- Robots: RobotHears, what is plain. -/
import Derived.Test.YtaaiaehffoadfaaRobL
import Derived.Deep.DeepCutAuto
set_option linter.unusedSimpArgs false
set_option linter.unusedVariables false
namespace Go.Proofs.Ytaaiaehffoadfaa
open Go.RowKit Go.IntWalk

theorem wayL_take {nx : Int → Int → Option Int} : ∀ {q : List Int} (k : Nat) {c : Int} {l : List Int}, wayL nx c q = some l → ∃ h, wayL nx c (q.take k) = some h ∧ h <+: l
  | [], k, c, l, h => by simp at h ⊢; exact ⟨l, h, List.prefix_refl _⟩
  | a :: q, 0, c, l, h => by
    obtain ⟨t, rfl⟩ := wayL_head h
    exact ⟨[c], by simp [wayL], ⟨t, by simp⟩⟩
  | a :: q, k + 1, c, l, h => by
    simp only [List.take_succ_cons]
    unfold wayL at h ⊢
    split
    · rename_i hm
      rw [if_pos hm] at h
      split at h
      · cases h
      · rename_i c' hc
        cases hw : wayL nx c' q with
        | none => rw [hw] at h; cases h
        | some t =>
          rw [hw] at h
          simp only [Option.map_some, Option.some.injEq] at h
          obtain ⟨h1, e1, p1⟩ := wayL_take k hw
          refine ⟨c :: h1, by rw [e1]; simp, ?_⟩
          rw [← h]
          exact List.cons_prefix_cons.2 ⟨rfl, p1⟩
    · rename_i hm
      rw [if_neg hm] at h
      exact wayL_take k h
theorem rightM_take {W H D : Int} {kind out : List Int} {c : Int} {q : List Int} (h : rightM W H D kind out c q = true) (k : Nat) : rightM W H D kind out c (q.take k) = true := by
  obtain ⟨h1, h2, h3, h4, l, hl⟩ := rightM_iff.1 h
  obtain ⟨t, ht, _⟩ := wayL_take k hl
  exact rightM_iff.2 ⟨h1, h2, by simp; omega, knownL_iff.2 fun x hx => knownL_iff.1 h4 x (List.mem_of_mem_take hx), t, ht⟩
theorem hearL_ok {W H D : Int} {kind out : List Int} {c : Int} {q acts : List Int} (h : rightM W H D kind out c acts = true) : hearL W H D kind out c q acts = ((c, acts), 0) := by
  obtain ⟨h1, h2, h3, h4, l, hl⟩ := rightM_iff.1 h
  unfold hearL
  rw [if_neg (by omega), if_neg (by simp [h4]), if_neg (by simp [h])]
theorem hearL_no {W H D : Int} {kind out : List Int} {c : Int} {q acts : List Int} (h : rightM W H D kind out c acts = false) : ∃ n, hearL W H D kind out c q acts = ((c, q), n) ∧ n ≠ 0 := by
  unfold hearL
  split
  · exact ⟨6, rfl, by decide⟩
  · split
    · exact ⟨1, rfl, by decide⟩
    · exact ⟨14, by first | rfl | (rw [if_pos h]), by decide⟩
theorem sliceH (A : Option Addr) (n c h : Nat) (hh : h ≤ c) (W : World) : (Instr.slice 22 (.slice A n c) none (some (.int .i64 (h : Int))) none).run Try.prog W = .ok (.slice A h c) W := by
  rw [run_slice_h (ht := Try.underlying22) (h0 := by omega) (h2 := by omega)]
  cases A <;> simp [go_sem, sliced, Addr.add]
theorem SlR.take {w : World} {B : Nat} {A : Option Addr} {l : List Int} (h : SlR w B A l) (k : Nat) : SlR w B A (l.take k) := by
  intro i x hx
  rw [List.getElem?_take] at hx
  split at hx
  · exact h i x hx
  · cases hx
end Go.Proofs.Ytaaiaehffoadfaa
