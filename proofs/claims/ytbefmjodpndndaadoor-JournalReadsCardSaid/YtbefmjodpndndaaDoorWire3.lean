
/- Wire: the reference's Back. -/
import Derived.Test.YtbefmjodpndndaaDoorWireR
import Derived.Test.YtbefmjodpndndaaDoorWireB
set_option linter.unusedSimpArgs false
set_option linter.unusedVariables false
namespace Go.Proofs.YtbefmjodpndndaaDoor
open Go.RowKit Go.IntWalk

def pv (l : List UInt8) : Nat := l.foldl (fun a c => a * 10 + (c.toNat - 48)) 0
theorem pv_snoc (l : List UInt8) (c : UInt8) : pv (l ++ [c]) = pv l * 10 + (c.toNat - 48) := by unfold pv; rw [List.foldl_append]; rfl
theorem pv_dec (u : Nat) : pv (Lib.decDigits u) = u := by
  induction u using Nat.strongRecOn with
  | _ u ih =>
    have hd : (UInt8.ofNat (48 + u % 10)).toNat = 48 + u % 10 := by
      first | exact UInt8.toNat_ofNat_of_lt' (by omega) | (show (48 + u % 10) % 256 = _; omega)
    by_cases h10 : u < 10
    · rw [Lib.decDigits_one h10]
      have hd' : (UInt8.ofNat (48 + u)).toNat = 48 + u := by
        first | exact UInt8.toNat_ofNat_of_lt' (by omega) | (show (48 + u) % 256 = _; omega)
      unfold pv
      simp only [List.foldl_cons, List.foldl_nil, hd']
      omega
    · rw [Lib.decDigits.eq_1 u, dif_neg h10, pv_snoc, ih (u / 10) (by omega), hd]
      omega
/-- Where the digits begin. -/
def fr (l : List UInt8) : Nat := match l with | [] => 0 | c :: _ => if c = 45 then 1 else 0
theorem fr_le (l : List UInt8) : fr l ≤ 1 ∧ fr l ≤ l.length := by
  unfold fr
  split
  · simp
  · split <;> simp
theorem itoa_fr {l : List UInt8} {m : Int} (h : Lib.itoa m = l) : l.drop (fr l) = Lib.decDigits m.natAbs ∧ (fr l = 1 → m < 0) ∧ (fr l = 0 → 0 ≤ m) := by
  by_cases hm : m < 0
  · have e : Lib.itoa m = 45 :: Lib.decDigits m.natAbs := by unfold Lib.itoa; rw [if_pos hm]
    rw [e] at h
    subst h
    simp [fr, hm]
  · have e : Lib.itoa m = Lib.decDigits m.natAbs := by unfold Lib.itoa; rw [if_neg hm]; congr 1; omega
    rw [e] at h
    obtain ⟨c, r, hc, h1, h2⟩ := dec_head m.natAbs
    have hf : fr l = 0 := by
      rw [← h, hc]
      unfold fr
      have : ¬ c = 45 := by intro hcc; subst hcc; simp at h1
      simp [this]
    rw [hf]
    exact ⟨by rw [List.drop_zero, ← h], fun hh => by omega, fun _ => by omega⟩
def BackRes (l : List UInt8) (e : Ending) : Prop :=
  (∃ v, I64 v ∧ Lib.itoa v = l ∧ e = .returned (.tuple #[.int .i64 v, .bool true])) ∨ (∃ v, I64 v ∧ (∀ m, I64 m → Lib.itoa m ≠ l) ∧ e = .returned (.tuple #[.int .i64 v, .bool false]))
/-- What the loop knows. -/
structure Bk (l : List UInt8) (k : Nat) (z : Int) : Prop where
  i : I64 z
  d : ∀ c ∈ (l.drop (fr l)).take (k - fr l), 48 ≤ c.toNat ∧ c.toNat ≤ 57
  v : pv ((l.drop (fr l)).take (k - fr l)) ≤ 9223372036854775808 → z = -(pv ((l.drop (fr l)).take (k - fr l)) : Int)
theorem Bk.zero (l : List UInt8) : Bk l (fr l) 0 := ⟨by simp [I64], by simp, by simp [pv]⟩
theorem wrap64_bd (n : Int) : -9223372036854775808 ≤ wrap64 n ∧ wrap64 n ≤ 9223372036854775807 := by unfold wrap64; omega
theorem Bk.step {l : List UInt8} {k : Nat} {z : Int} (h : Bk l k z) (hf : fr l ≤ k) (hk : k < l.length) (h1 : 48 ≤ l[k].toNat) (h2 : l[k].toNat ≤ 57) : Bk l (k + 1) (wrap64 (wrap64 (10 * z) - ((l[k].toNat : Int) - 48))) := by
  have e : (l.drop (fr l)).take (k + 1 - fr l) = (l.drop (fr l)).take (k - fr l) ++ [l[k]] := by
    rw [show k + 1 - fr l = (k - fr l) + 1 by omega, List.take_add_one, List.getElem?_drop, show fr l + (k - fr l) = k by omega, List.getElem?_eq_getElem hk]
    rfl
  refine ⟨wrap64_bd _, ?_, ?_⟩
  · rw [e]
    intro c hc
    rcases List.mem_append.1 hc with hc | hc
    · exact h.d c hc
    · rw [List.mem_singleton.1 hc]; exact ⟨h1, h2⟩
  · rw [e, pv_snoc]
    intro hp
    have hz := h.v (by omega)
    have hi := h.i.bd
    generalize pv ((l.drop (fr l)).take (k - fr l)) = p at *
    unfold wrap64
    omega
theorem Bk.bad {l : List UInt8} {k : Nat} (hf : fr l ≤ k) (hk : k < l.length) (hc : ¬ (48 ≤ l[k].toNat ∧ l[k].toNat ≤ 57)) : ∀ m, I64 m → Lib.itoa m ≠ l := by
  intro m _ he
  have h1 := (itoa_fr he).1
  have hm : l[k] ∈ l.drop (fr l) := by
    have : (l.drop (fr l))[k - fr l]? = some l[k] := by rw [List.getElem?_drop, show fr l + (k - fr l) = k by omega, List.getElem?_eq_getElem hk]
    exact List.mem_of_getElem? this
  rw [h1] at hm
  exact hc (dec_range _ _ hm)
theorem Bk.val {l : List UInt8} {z : Int} (h : Bk l l.length z) {m : Int} (hm : I64 m) (he : Lib.itoa m = l) : (fr l = 1 → z = m) ∧ (fr l = 0 → wrap64 (-z) = m) := by
  obtain ⟨h1, h2, h3⟩ := itoa_fr he
  have hv := h.v
  rw [List.take_of_length_le (by simp), h1, pv_dec] at hv
  have hb := hm.bd
  have := hv (by omega)
  refine ⟨fun hf => by have := h2 hf; omega, fun hf => ?_⟩
  have := h3 hf
  unfold wrap64
  omega
theorem sz_get (s : ByteArray) (k : Nat) (h : k < s.size) (h2 : k < s.data.toList.length) : s[k] = s.data.toList[k] := by simp; rfl
end Go.Proofs.YtbefmjodpndndaaDoor
