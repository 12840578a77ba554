
/- A set of numbers: a map[int]bool of the call's own. -/
import Derived.Test.YtdjjhflhdhihcaaQue
import Derived.Maps.Own
import Derived.Maps.Views
set_option linter.unusedSimpArgs false
set_option linter.unusedVariables false
namespace Go.Proofs.Ytdjjhflhdhihcaa
open Go.RowKit Go.IntWalk Go.Maps Go.WideMaps

theorem plainElem_bool_inv {H : Type} {P : Program} {e : TypeId} (he : P.underlying e = some .bool) {v : Value} {z : DataW H × List MemPlace} (h : plainElem P e v = some z) : ∃ a, v = .bool a ∧ z = (.lit (.bool a), []) := by
  unfold plainElem at h
  rw [he] at h
  cases v <;> simp at h
  exact ⟨_, rfl, h.symm⟩
/-- A look-up in a map of bools of the call's own. -/
theorem look_bool {H : Type} {P : Program} {w : World} {t k e : TypeId} {b n : Nat} {D : DataW H} (h : w.ownsMap P k (plainElem P e) b n D) (K : Keyed P k) (ht : P.underlying t = some (.map k e)) (he : P.underlying e = some .bool) (hz : (zeroValue e).run P w = .ok (.bool false) w)
    {key : Value} {kl : Lit} (hkey : keyOf P k key = some kl) : ∃ c, (Instr.lookup t (.map (some b)) key false).run P w = .ok (.bool c) w ∧ D.atKey kl (.lit (.bool false)) = .lit (.bool c) := by
  obtain ⟨v, ps, hrun, hv⟩ := h.lookup K ht hz (plainElem_bool he false) hkey
  obtain ⟨c, rfl, hc⟩ := plainElem_bool_inv he hv
  simp only [Prod.mk.injEq] at hc
  exact ⟨c, hrun, hc.1⟩
/-- The set of these numbers. -/
def setI (l : List Int) : DataW Unit := l.foldl (fun D s => D.put (.int .i64 s) (.lit (.bool true))) (.map [])
theorem setI_snoc (l : List Int) (s : Int) : setI (l ++ [s]) = (setI l).put (.int .i64 s) (.lit (.bool true)) := by unfold setI; rw [List.foldl_append]; rfl
theorem rev_ind {α : Type} {p : List α → Prop} (h0 : p []) (h1 : ∀ l x, p l → p (l ++ [x])) (l : List α) : p l := by
  have : ∀ n (l : List α), l.length = n → p l := by
    intro n
    induction n with
    | zero => intro l hl; rw [List.eq_nil_of_length_eq_zero hl]; exact h0
    | succ n ih =>
      intro l hl
      have hne : l ≠ [] := by intro e; rw [e] at hl; simp at hl
      have := h1 l.dropLast (l.getLast hne) (ih _ (by simp; omega))
      rwa [List.dropLast_concat_getLast] at this
  exact this _ l rfl
theorem setI_map (l : List Int) : IsMap (setI l) := by
  induction l using rev_ind with
  | h0 => exact isMap_empty
  | h1 l x ih => rw [setI_snoc]; exact ih.put _ _
theorem setI_at (l : List Int) (s : Int) : (setI l).atKey (.int .i64 s) (.lit (.bool false)) = .lit (.bool (l.any (fun y => decide (s = y)))) := by
  induction l using rev_ind with
  | h0 => rfl
  | h1 l x ih =>
    rw [setI_snoc]
    by_cases e : s = x
    · subst e
      rw [atKey_put_same (k := .int .i64 s) (setI_map l) trivial]
      simp
    · rw [atKey_put_other (fun h => e (by injection h))]
      rw [ih]
      simp [e]
theorem zeroBool (w : World) : (zeroValue 4).run Try.prog w = .ok (.bool false) w := by kernel_rfl
theorem lawInt : Keyed Try.prog 3 := int_keyed Try.underlying3
theorem map_ne_blk {H : Type} {P : Program} {k : TypeId} {R : Value → Option (DataW H × List MemPlace)} {w : World} {b n g : Nat} {D : DataW H} {t : TypeId} {cs : Array Value} (h : w.ownsMap P k R b n D) (hb : Blk w g t cs) : b ≠ g := by
  obtain ⟨es, clock, hm, _⟩ := h
  rintro rfl
  unfold Blk at hb
  rw [hm] at hb
  cases hb
end Go.Proofs.Ytdjjhflhdhihcaa
