
/- Layouts, shifts, plain: the law of LayoutShifts. -/
import Derived.Test.YtbelaeellcnpmaaLshFp
import Derived.Test.YtbelaeellcnpmaaLshC
set_option linter.unusedSimpArgs false
set_option linter.unusedVariables false
namespace Go.Proofs.Ytbelaeellcnpmaa
open Go.RowKit Go.IntWalk

section
variable {W H D : Int} {kind out r : List Int} {l : List Bool}
theorem getB_at {l : List Bool} {k : Nat} (h : k < l.length) (d : Bool) : l.getD k d = l[k] := by rw [List.getD_eq_getElem?_getD, List.getElem?_eq_getElem h]; rfl
theorem doL_len (l : List Bool) (a b : Nat) : (doL l a b).length = l.length := by unfold doL; rw [List.length_set, List.length_set]
theorem doL_at {l : List Bool} {a b : Nat} (c : Nat) (hc : c < l.length) : (doL l a b)[c]'(by rw [doL_len]; exact hc) = if b = c then true else if a = c then false else l[c] := by
  unfold doL
  rw [List.getElem_set, List.getElem_set]
theorem doL_diff {l : List Bool} {a b : Nat} (ha : a < l.length) (hb : b < l.length) (hla : l[a] = true) (hlb : l[b] = false) (c : Nat) (hc : c < l.length) : ((doL l a b)[c]'(by rw [doL_len]; exact hc) != l[c]) = (decide (c = a) || decide (c = b)) := by
  rw [doL_at c hc]
  by_cases h1 : b = c
  · subst h1; simp [hlb]
  · by_cases h2 : a = c
    · subst h2; simp [hla, h1, Ne.symm h1]
    · simp [h1, h2, Ne.symm h1, Ne.symm h2]
theorem count_set_false : ∀ {l : List Bool} {a : Nat} (ha : a < l.length), l[a] = true → (l.set a false).count true + 1 = l.count true
  | x :: l, 0, _, h => by
    simp only [List.getElem_cons_zero] at h
    subst h
    simp
  | x :: l, a + 1, ha, h => by
    have ih := count_set_false (l := l) (a := a) (by simpa using ha) (by simpa using h)
    rw [List.set_cons_succ, List.count_cons, List.count_cons]
    omega
theorem count_set_true : ∀ {l : List Bool} {a : Nat} (ha : a < l.length), l[a] = false → (l.set a true).count true = l.count true + 1
  | x :: l, 0, _, h => by
    simp only [List.getElem_cons_zero] at h
    subst h
    simp
  | x :: l, a + 1, ha, h => by
    have ih := count_set_true (l := l) (a := a) (by simpa using ha) (by simpa using h)
    rw [List.set_cons_succ, List.count_cons, List.count_cons]
    omega
theorem doL_count {l : List Bool} {a b : Nat} (ha : a < l.length) (hb : b < l.length) (hla : l[a] = true) (hlb : l[b] = false) : (doL l a b).count true = l.count true := by
  have hab : a ≠ b := fun e => by subst e; rw [hla] at hlb; cases hlb
  unfold doL
  have h1 := count_set_false ha hla
  have h2 := count_set_true (l := l.set a false) (a := b) (by rw [List.length_set]; exact hb) (by rw [List.getElem_set, if_neg hab]; exact hlb)
  omega
theorem doL_right {l : List Bool} {t : Int} {a b : Nat} (h : rightL l t = true) (ha : a < l.length) (hb : b < l.length) : rightL (doL l a b) (doT t a b) = true := by
  obtain ⟨h1, h2, h3, h4, h5⟩ := (rightL_iff l t).1 h
  refine (rightL_iff _ _).2 ⟨by rw [doL_len]; exact h1, by rw [doL_len]; exact h2, ?_, ?_, ?_⟩
  · unfold doT; split <;> omega
  · rw [doL_len]; unfold doT; split <;> omega
  · unfold doT
    split
    · rw [Int.toNat_natCast, getB_at (by rw [doL_len]; exact hb), doL_at b hb, if_pos rfl]
    · rename_i hne
      have htl : t.toNat < l.length := by omega
      rw [getB_at htl] at h5
      rw [getB_at (by rw [doL_len]; exact htl), doL_at _ htl]
      split
      · rfl
      · rw [if_neg (by omega)]
        exact h5
theorem doL_back {l : List Bool} {a b : Nat} (ha : a < l.length) (hb : b < l.length) (hla : l[a] = false) (hlb : l[b] = true) : doL (doL l b a) a b = l := by
  refine List.ext_getElem (by rw [doL_len, doL_len]) fun c h1 h2 => ?_
  rw [doL_at c (by rw [doL_len]; exact h2), doL_at c h2]
  by_cases e1 : b = c
  · subst e1; rw [if_pos rfl, hlb]
  · rw [if_neg e1]
    by_cases e2 : a = c
    · subst e2; rw [if_pos rfl, hla]
    · rw [if_neg e2, if_neg e2, if_neg e1]
theorem doT_back {l : List Bool} {t : Int} {a b : Nat} (h : rightL l t = true) (ha : a < l.length) (hla : l[a] = false) : doT (doT t b a) a b = t := by
  obtain ⟨h1, h2, h3, h4, h5⟩ := (rightL_iff l t).1 h
  unfold doT
  by_cases e1 : t = b
  · rw [if_pos e1, if_pos rfl, e1]
  · rw [if_neg e1]
    have hta : ¬ t = a := fun e => by
      have htl : t.toNat < l.length := by omega
      rw [getB_at htl] at h5
      have : t.toNat = a := by omega
      subst this
      rw [hla] at h5
      cases h5
    rw [if_neg hta]
/-- What is known of a shift in the list. -/
structure ShP (W H D : Int) (kind out r : List Int) (l : List Bool) (full : Bool) (a b : Nat) : Prop where
  al : a < l.length
  bl : b < l.length
  fa : l[a] = full
  fb : l[b] = !full
  gets : getsN W H D kind out (r.getD a 0) (r.getD b 0) 6 = true
theorem shP {full : Bool} {x : Sh} {a b : Nat} (h : ShOK W H D kind out r l full x a b) : ShP W H D kind out r l full a b := by
  refine ⟨h.al, h.bl, ?_, ?_, ?_⟩
  · have := h.fa
    rwa [getB_at h.al] at this
  · have := h.fb
    rw [getB_at h.bl] at this
    cases hq : l[b]'h.bl <;> cases full <;> simp_all
  · obtain ⟨d, hd, hn⟩ := h.way
    exact List.any_eq_true.2 ⟨d, List.mem_range.2 hd, decide_eq_true hn⟩
/-- The shift back stands in the list of the other layout. -/
theorem sh_other {full : Bool} {x : Sh} {a b : Nat} {m : List Bool} (hr : r.Pairwise (· < ·)) (hlr : r.length = l.length) (h : ShOK W H D kind out r l full x a b) (hm : m.length = l.length) (hma : m.getD a full = !full) (hmb : m.getD b (!full) = full) : x ∈ allS W H D kind out r m (!full) r.length := by
  refine (allS_mem hr (by omega) rfl).2 ⟨a, b, h.eq, by rw [hm]; exact h.al, by rw [hm]; exact h.bl, h.ar, h.br, ?_, ?_, h.way⟩
  · rw [Bool.not_not]; exact hma
  · rw [hmb]; cases full <;> simp
end
end Go.Proofs.Ytbelaeellcnpmaa
