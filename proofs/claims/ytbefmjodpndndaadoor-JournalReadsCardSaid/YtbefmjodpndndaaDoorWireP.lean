
/- Wire, plain: what is written is read back. -/
import Derived.Test.YtbefmjodpndndaaDoorWireJ
set_option linter.unusedSimpArgs false
set_option linter.unusedVariables false
namespace Go.Proofs.YtbefmjodpndndaaDoor
open Go.RowKit Go.IntWalk

theorem parse_one (acc d : Nat) (hd : d < 10) (h : acc * 10 + d < 18446744073709551616) (r : List UInt8) : Lib.parseUint10 acc (UInt8.ofNat (48 + d) :: r) = Lib.parseUint10 (acc * 10 + d) r := by
  have e : (UInt8.ofNat (48 + d)).toNat = 48 + d := by
    first | exact UInt8.toNat_ofNat_of_lt' (by omega) | (show (48 + d) % 256 = _; omega)
  rw [Lib.parseUint10, e, if_pos (by omega), if_neg (by omega), if_neg (by omega), show 48 + d - 48 = d by omega]
/-- A numeral's digits, parsed from the left onto what has been read. -/
theorem parse_digits : ∀ (k u acc : Nat), u ≤ k → acc * 10 ^ (Lib.decDigits u).length + u < 18446744073709551616 → ∀ r, Lib.parseUint10 acc (Lib.decDigits u ++ r) = Lib.parseUint10 (acc * 10 ^ (Lib.decDigits u).length + u) r := by
  intro k
  induction k using Nat.strongRecOn with
  | _ k ih =>
    intro u acc hu h r
    by_cases h10 : u < 10
    · rw [Lib.decDigits_one h10] at h ⊢
      simp only [List.length_singleton, Nat.pow_one] at h ⊢
      exact parse_one acc u h10 h r
    · have e : Lib.decDigits u = Lib.decDigits (u / 10) ++ [UInt8.ofNat (48 + u % 10)] := by rw [Lib.decDigits.eq_1 u, dif_neg h10]
      have el : (Lib.decDigits u).length = (Lib.decDigits (u / 10)).length + 1 := by rw [e]; simp
      rw [el, Nat.pow_succ, ← Nat.mul_assoc] at h ⊢
      generalize hX : acc * 10 ^ (Lib.decDigits (u / 10)).length = X at *
      rw [e, List.append_assoc, ih (u / 10) (by omega) (u / 10) acc (Nat.le_refl _) (by rw [hX]; omega), hX, List.singleton_append, parse_one _ _ (by omega) (by omega)]
      congr 1
      omega
theorem dec_ne (u : Nat) : Lib.decDigits u ≠ [] := by
  intro h
  have := congrArg List.length h
  rw [Lib.decDigits_length] at this
  unfold Lib.nDigits at this
  split at this <;> simp at this
theorem dec_head (u : Nat) : ∃ c r, Lib.decDigits u = c :: r ∧ 48 ≤ c.toNat ∧ c.toNat ≤ 57 := by
  induction u using Nat.strongRecOn with
  | _ u ih =>
    by_cases h10 : u < 10
    · refine ⟨UInt8.ofNat (48 + u), [], Lib.decDigits_one h10, ?_⟩
      have e : (UInt8.ofNat (48 + u)).toNat = 48 + u := by
        first | exact UInt8.toNat_ofNat_of_lt' (by omega) | (show (48 + u) % 256 = _; omega)
      omega
    · obtain ⟨c, r, h1, h2⟩ := ih (u / 10) (by omega)
      exact ⟨c, r ++ [UInt8.ofNat (48 + u % 10)], by rw [Lib.decDigits.eq_1 u, dif_neg h10, h1]; rfl, h2⟩
theorem mag_dec (u : Nat) (h : u < 18446744073709551616) : Lib.parseMag (Lib.decDigits u) = .ok u := by
  have := parse_digits u u 0 (Nat.le_refl _) (by omega) []
  rw [List.append_nil] at this
  rw [Lib.parseMag, if_neg (dec_ne u), this]
  simp [Lib.parseUint10]
/-- An int's decimal form is read as that int. -/
theorem atoi_itoa (n : Int) (h : I64 n) : Lib.atoiAll (Lib.itoa n) = .ok n := by
  have hb := h.bd
  by_cases hn : n < 0
  · have e : Lib.itoa n = 45 :: Lib.decDigits n.natAbs := by unfold Lib.itoa; rw [if_pos hn]
    rw [e, Lib.atoiAll]
    have h45 : (45 : UInt8).toNat = 45 := rfl
    simp only [h45, or_true, if_true, mag_dec n.natAbs (by omega), not_true_eq_false, false_and, if_false, true_and]
    rw [if_neg (by omega)]
    congr 1
    omega
  · have e : Lib.itoa n = Lib.decDigits n.toNat := by unfold Lib.itoa; rw [if_neg hn]
    obtain ⟨c, r, hc, h1, h2⟩ := dec_head n.toNat
    rw [e]
    have hm := mag_dec n.toNat (by omega)
    rw [hc] at hm ⊢
    rw [Lib.atoiAll]
    have h43 : ¬ (c.toNat = 43 ∨ c.toNat = 45) := by omega
    have h45 : ¬ (c.toNat = 45) := by omega
    have h46 : ¬ (c.toNat = 43) := by omega
    have hz : ¬ (9223372036854775808 ≤ n.toNat) := by omega
    have hz2 : (n.toNat : Int) = n := by omega
    simp [h46, h45, hm, hz, hz2]
theorem nDigits_pow : ∀ (k u : Nat), u < 10 ^ (k + 1) → Lib.nDigits u ≤ k + 1
  | 0, u, h => by rw [Lib.nDigits_small (by simpa using h)]; omega
  | k + 1, u, h => by
    unfold Lib.nDigits
    split
    · omega
    · have := nDigits_pow k (u / 10) (by rw [Nat.pow_succ] at h; omega)
      omega
theorem itoa_len20 (n : Int) (h : I64 n) : (Lib.itoa n).length ≤ 20 := by
  have hb := h.bd
  have h19 : (10 : Nat) ^ 19 = 10000000000000000000 := by decide
  unfold Lib.itoa
  split
  · rw [List.length_cons, Lib.decDigits_length]
    have := nDigits_pow 18 n.natAbs (by rw [h19]; omega)
    omega
  · rw [Lib.decDigits_length]
    have := nDigits_pow 18 n.toNat (by rw [h19]; omega)
    omega
theorem dec_range (u : Nat) : ∀ c ∈ Lib.decDigits u, 48 ≤ c.toNat ∧ c.toNat ≤ 57 := by
  induction u using Nat.strongRecOn with
  | _ u ih =>
    intro c hc
    rw [Lib.decDigits] at hc
    split at hc
    · rename_i h10
      rw [List.mem_singleton.1 hc]
      have e : (UInt8.ofNat (48 + u)).toNat = 48 + u := by
        first | exact UInt8.toNat_ofNat_of_lt' (by omega) | (show (48 + u) % 256 = _; omega)
      omega
    · rcases List.mem_append.1 hc with h | h
      · exact ih (u / 10) (by omega) c h
      · rw [List.mem_singleton.1 h]
        have e : (UInt8.ofNat (48 + u % 10)).toNat = 48 + u % 10 := by
          first | exact UInt8.toNat_ofNat_of_lt' (by omega) | (show (48 + u % 10) % 256 = _; omega)
        omega
theorem itoa_range (n : Int) : ∀ c ∈ Lib.itoa n, c.toNat = 45 ∨ (48 ≤ c.toNat ∧ c.toNat ≤ 57) := by
  intro c hc
  unfold Lib.itoa at hc
  split at hc
  · rcases List.mem_cons.1 hc with h | h
    · rw [h]; exact .inl rfl
    · exact .inr (dec_range _ c h)
  · exact .inr (dec_range _ c hc)
theorem index_app (c : UInt8) (r : List UInt8) : ∀ (a : List UInt8), (∀ x ∈ a, x ≠ c) → Lib.indexByte (a ++ c :: r) c = a.length
  | [], _ => by simp [Lib.indexByte]
  | x :: a, h => by
    have ih := index_app c r a (fun y hy => h y (List.mem_cons_of_mem _ hy))
    have hx : (x == c) = false := by simp [h x List.mem_cons_self]
    rw [List.cons_append, Lib.indexByte, hx, ih]
    simp
    try omega
/-- What is written is read back. -/
theorem numL_itoa (n : Int) (h : I64 n) (en : UInt8) (least : Int) (rest : List UInt8) (hen : 57 < en.toNat) (hl : least ≤ n) : numL (Lib.itoa n ++ en :: rest) en least = some (n, rest) := by
  have h20 := itoa_len20 n h
  have ht : (Lib.itoa n ++ en :: rest).take 21 = Lib.itoa n ++ en :: rest.take (20 - (Lib.itoa n).length) := by
    rw [List.take_append, List.take_of_length_le (by omega)]
    congr 1
    rw [show 21 - (Lib.itoa n).length = (20 - (Lib.itoa n).length) + 1 by omega, List.take_succ_cons]
  have hne : ∀ x ∈ Lib.itoa n, x ≠ en := by
    intro x hx e
    have := itoa_range n x hx
    rw [e] at this
    omega
  have hi := index_app en (rest.take (20 - (Lib.itoa n).length)) (Lib.itoa n) hne
  unfold numL
  rw [ht, hi, if_neg (by omega), Int.toNat_natCast]
  rw [List.take_left, atoi_itoa n h]
  simp only [true_and]
  rw [if_pos hl]
  congr 2
  rw [List.drop_append, List.drop_eq_nil_of_le (by omega)]
  simp
end Go.Proofs.YtbefmjodpndndaaDoor
