
/- Wire: the reference's Int, Num, Text; lists. -/
import Derived.Test.YteljfpcmpdpehaaGreatDoorRepStr
import Derived.Test.YteljfpcmpdpehaaGreatDoorWireA
set_option linter.unusedSimpArgs false
set_option linter.unusedVariables false
namespace Go.Proofs.YteljfpcmpdpehaaGreatDoor
open Go.RowKit Go.IntWalk

set_option maxRecDepth 100000 in
set_option maxHeartbeats 400000 in
theorem rInt_any (n : Int) (h : I64 n) (w : World) : Calls Tryz.prog 82 #[.int .i64 n] w fun e w' => e = .returned (.string (bs (encI n))) ∧ Below w.heap.size w w' := by
  have hbd := h.bd
  have hl := hid (Lib.itoa_length_le n h.1 h.2)
  by_cases hn : n < 0
  · have e1 := hid (show Lib.itoa n = 45 :: Lib.decDigits n.natAbs by unfold Lib.itoa; rw [if_pos hn])
    go_enter Tryz.func82, Tryz.ntmps82
    go_wp2_with fail
    refine (digits_any n.natAbs n w (Nat.le_refl _) (by omega) (by omega)).mono ?_
    rintro e w' ⟨rfl, hB⟩
    have hs : (bs (Lib.decDigits n.natAbs)).size ≤ 21 := by
      rw [bs_size]
      have := hl.out
      rw [e1.out] at this
      simp at this
      omega
    have hs1 : (({ data := #[45] } : ByteArray)).size = 1 := rfl
    go_wp2_with fail
    go_ret
    exact ⟨ret_str (by rw [show ({ data := #[45] } : ByteArray) = bs [45] from rfl, bs_app, bs_one, encI, e1.out]; rfl), hB⟩
  · have e1 := hid (show Lib.itoa n = Lib.decDigits n.natAbs by unfold Lib.itoa; rw [if_neg hn]; congr 1; omega)
    go_enter Tryz.func82, Tryz.ntmps82
    go_wp2_with fail
    refine (digits_any n.natAbs (-n) w (by omega) (by omega) (by omega)).mono ?_
    rw [Int.natAbs_neg]
    rintro e w' ⟨rfl, hB⟩
    have hs : (bs (Lib.decDigits n.natAbs)).size ≤ 21 := by
      rw [bs_size]
      have := hl.out
      rw [e1.out] at this
      omega
    go_wp2_with fail
    go_ret
    exact ⟨ret_str (by rw [bs_one, encI, e1.out]), hB⟩
set_option maxRecDepth 100000 in
set_option maxHeartbeats 400000 in
theorem rNum_any (n : Int) (h : I64 n) (w : World) : Calls Tryz.prog 83 #[.int .i64 n] w fun e w' => e = .returned (.string (bs (if n < 0 then [] else encI n))) ∧ Below w.heap.size w w' := by
  by_cases hn : n < 0
  · go_enter Tryz.func83, Tryz.ntmps83
    go_wp2_with fail
    go_ret
    exact ⟨ret_str (by simp [bs, hn]), Below.refl _ _⟩
  · go_enter Tryz.func83, Tryz.ntmps83
    go_wp2_with fail
    refine (rInt_any n h w).mono ?_
    rintro e w' ⟨rfl, hB⟩
    go_wp2_with fail
    go_ret
    exact ⟨ret_str (by simp [hn]), hB⟩
theorem dig_len (n : Nat) (h : n ≤ 9223372036854775807) : (bs (Lib.decDigits n)).size ≤ 21 := by
  rw [bs_size]
  have h4 := Lib.itoa_length_le (n : Int) (by omega) (by omega)
  rw [Lib.itoa_nonneg] at h4
  exact h4
theorem SlR.str {w : World} {B : Nat} {A : Option Addr} {l : List ByteArray} (h : SlR w B A l) {k : Nat} (hk : k < l.length) : ∃ b off, A = some ⟨b, off, none⟩ ∧ b < B ∧ w.cell? ⟨b, off + k, none⟩ = some (.string l[k]) := by
  obtain ⟨b, off, es, hA, hb, _, hc, rfl, hi⟩ := h k _ (List.getElem?_eq_getElem hk)
  exact ⟨b, off, hA, hb, by have := hc 0 _ rfl; simpa [Rep.size] using this⟩

/-- What a list's encoding is: its elements' encodings are 'es'. -/
def encL (es : List (List UInt8)) : List UInt8 := Lib.itoa es.length ++ [91] ++ es.flatten ++ [93]
def hd (n : Nat) : List UInt8 := Lib.itoa n ++ [91]
theorem hd_len (n : Nat) (h : n ≤ 9223372036854775807) : (hd n).length ≤ 22 := by
  have := Lib.itoa_length_le (n : Int) (by omega) (by omega)
  simp [hd]; omega
theorem flat_le (es : List (List UInt8)) (k : Nat) : (es.take k).flatten.length ≤ es.flatten.length := by
  have : es.flatten = (es.take k).flatten ++ (es.drop k).flatten := by rw [← List.flatten_append, List.take_append_drop]
  rw [this, List.length_append]; omega
theorem flat_snoc (es : List (List UInt8)) (k : Nat) (h : k < es.length) : (es.take (k + 1)).flatten = (es.take k).flatten ++ es[k] := by
  rw [List.take_add_one, List.getElem?_eq_getElem h, List.flatten_append]
  show _ ++ [es[k]].flatten = _
  rw [List.flatten_cons, List.flatten_nil, List.append_nil]

set_option maxRecDepth 100000 in
set_option maxHeartbeats 1000000 in
theorem rNums_any (A : Option Addr) (c : Nat) (l : List Int) (w : World) (hl : (l.map encI).flatten.length ≤ 1000000000000) (hn : l.length ≤ 1000000000000) (hs : SlR w w.heap.size A l) :
    Calls Tryz.prog 84 #[.slice A l.length c] w fun e w' => e = .returned (.string (bs (encL (l.map encI)))) ∧ Below w.heap.size w w' := by
  have Hl := hid hl
  clear hl
  have HI := hid hs.ints
  go_enter Tryz.func84, Tryz.ntmps84
  go_wp2_with fail
  refine (digits_any l.length (-(l.length : Int)) w (by omega) (by omega) (by omega)).mono ?_
  rw [Int.natAbs_neg, Int.natAbs_natCast]
  rintro e w1 ⟨rfl, hB⟩
  have hz := dig_len l.length (by omega)
  go_wp2_with fail
  go_loopw [3, 4] (fun s i wr => ∃ k : Nat, k ≤ l.length ∧ i = .int .i64 k ∧ s = .string (bs (hd l.length ++ ((l.map encI).take k).flatten)) ∧ Below w.heap.size w wr) (fun _ i _ => l.length - (intOf i).toNat)
  case atStart => exact ⟨0, by omega, rfl, by simp [hd, Lib.itoa_nonneg, bs_one], hB⟩
  case round =>
    clear hB hz
    obtain ⟨k, hk, rfl, rfl, hB⟩ := hrel
    have hz1 : (bs (hd l.length ++ ((l.map encI).take k).flatten)).size ≤ 2000000000000 := by
      rw [bs_size, List.length_append]
      have := hd_len l.length (by omega)
      have := flat_le (l.map encI) k
      have := Hl.out
      omega
    by_cases hlt : k < l.length
    · obtain ⟨b, off, rfl, _, g1, hi⟩ := (hs.below hB).int hlt
      have hsn := hid (flat_snoc (l.map encI) k (by simpa using hlt))
      simp only [List.getElem_map] at hsn
      generalize l[k] = x at *
      go_wp2_with fail
      refine (rInt_any x hi _).mono ?_
      rintro e w2 ⟨rfl, hB2⟩
      have hz2 : (bs (encI x)).size ≤ 22 := by
        rw [bs_size, encI, List.length_append]
        have := Lib.itoa_length_le x hi.1 hi.2
        simp; omega
      go_wp2_with fail
      go_roundw
      case rel => exact ⟨k + 1, by omega, by go_num, by rw [bs_app, hsn.out, List.append_assoc], hB.trans (hB2.mono hB.size)⟩
      case measure => simp [intOf]; omega
    · have hkk : k = l.length := by omega
      subst hkk
      go_wp2_with fail
      go_ret
      exact ⟨ret_str (by rw [bs_one, encL, List.take_of_length_le (by simp)]; simp [hd]), hB⟩
def encB (s : ByteArray) : List UInt8 := encT s.data.toList
end Go.Proofs.YteljfpcmpdpehaaGreatDoor
