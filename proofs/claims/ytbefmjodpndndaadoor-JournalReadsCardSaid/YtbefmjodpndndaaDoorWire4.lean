
/- Wire: the reference's reader. -/
import Derived.Test.YtbefmjodpndndaaDoorWire3
set_option linter.unusedSimpArgs false
set_option linter.unusedVariables false
namespace Go.Proofs.YtbefmjodpndndaaDoor
open Go.RowKit Go.IntWalk

theorem bs_get0 (c : UInt8) (l : List UInt8) : (bs (c :: l))[0]'(by rw [bs_size]; simp) = c := by
  have h := sz_get (bs (c :: l)) 0 (by rw [bs_size]; simp) (by simp [bs])
  refine Eq.trans h ?_
  simp [bs]
theorem first_occ {l a r : List UInt8} {en : UInt8} {k : Nat} (h : l = a ++ en :: r) (ha : ∀ x ∈ a, x ≠ en) (hk : k < l.length) (he : l[k] = en) (hn : ∀ x ∈ l.take k, x ≠ en) : a = l.take k := by
  have h2 : l = l.take k ++ en :: l.drop (k + 1) := by
    conv => lhs; rw [← List.take_append_drop k l, List.drop_eq_getElem_cons hk, he]
  have i1 := index_app en r a ha
  have i2 := index_app en (l.drop (k + 1)) (l.take k) hn
  rw [← h] at i1
  rw [← h2, i1] at i2
  have hl : a.length = (l.take k).length := by omega
  have h3 : a ++ en :: r = l.take k ++ en :: l.drop (k + 1) := by rw [← h, ← h2]
  exact (List.append_inj h3 hl).1
theorem itoa_not (v : Int) (en : UInt8) (h : 57 < en.toNat) : ∀ x ∈ Lib.itoa v, x ≠ en := by
  intro x hx e
  have := itoa_range v x hx
  rw [e] at this
  omega
theorem ahead_none {l : List UInt8} {en : UInt8} {m : Int} (h : ∀ x ∈ l.take 21, x ≠ en) : numL l en m = none := by
  cases hr : numL l en m with
  | none => rfl
  | some vr =>
    obtain ⟨v, r⟩ := vr
    exfalso
    have h1 := numL_split hr
    have h20 := itoa_len20 v (numL_bd hr)
    refine h en ?_ rfl
    rw [h1, List.take_append, List.mem_append]
    right
    rw [show 21 - (Lib.itoa v).length = (20 - (Lib.itoa v).length) + 1 by omega, List.take_succ_cons]
    exact List.mem_cons_self
theorem ahead_some {l : List UInt8} {en : UInt8} {m v : Int} {k : Nat} (hen : 57 < en.toNat) (hk : k < l.length) (he : l[k] = en) (hv : I64 v) (hi : Lib.itoa v = l.take k) (hm : m ≤ v) : numL l en m = some (v, l.drop (k + 1)) := by
  have h2 : l = Lib.itoa v ++ en :: l.drop (k + 1) := by
    rw [hi]
    conv => lhs; rw [← List.take_append_drop k l, List.drop_eq_getElem_cons hk, he]
  have := numL_itoa v hv en m (l.drop (k + 1)) hen hm
  rwa [← h2] at this
theorem ahead_no {l : List UInt8} {en : UInt8} {m : Int} {k : Nat} (hen : 57 < en.toNat) (hk : k < l.length) (he : l[k] = en) (hn : ∀ x ∈ l.take k, x ≠ en) (hb : ∀ v, I64 v → Lib.itoa v ≠ l.take k) : numL l en m = none := by
  cases hr : numL l en m with
  | none => rfl
  | some vr =>
    obtain ⟨v, r⟩ := vr
    exact absurd (first_occ (numL_split hr) (itoa_not v en hen) hk he hn) (hb v (numL_bd hr))
theorem bs_get (l : List UInt8) (k : Nat) (h : k < l.length) : (bs l)[k]'(by rw [bs_size]; exact h) = l[k] := by
  have h1 := sz_get (bs l) k (by rw [bs_size]; exact h) (by simpa [bs] using h)
  rw [h1]; simp [bs]
theorem take_not {l : List UInt8} {en : UInt8} {k : Nat} (hk : k < l.length) (h : ∀ x ∈ l.take k, x ≠ en) (h2 : l[k] ≠ en) : ∀ x ∈ l.take (k + 1), x ≠ en := by
  intro x hx
  rw [List.take_add_one, List.getElem?_eq_getElem hk] at hx
  rcases List.mem_append.1 hx with hx | hx
  · exact h x hx
  · rw [show (some l[k]).toList = [l[k]] from rfl] at hx
    rw [List.mem_singleton.1 hx]; exact h2
end Go.Proofs.YtbefmjodpndndaaDoor
