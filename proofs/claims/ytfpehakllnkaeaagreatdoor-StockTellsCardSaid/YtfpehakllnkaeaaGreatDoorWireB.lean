
/- Wire: the reference's Int, Num, Text; lists. -/
import Derived.Test.YtfpehakllnkaeaaGreatDoorRepStr
import Derived.Test.YtfpehakllnkaeaaGreatDoorWireA
set_option linter.unusedSimpArgs false
set_option linter.unusedVariables false
namespace Go.Proofs.YtfpehakllnkaeaaGreatDoor
open Go.RowKit Go.IntWalk

set_option maxRecDepth 100000 in
set_option maxHeartbeats 400000 in
theorem rInt_any (n : Int) (h : I64 n) (w : World) : Calls Tryz.prog 74 #[.int .i64 n] w fun e w' => e = .returned (.string (bs (encI n))) ∧ Below w.heap.size w w' := by
  have hbd := h.bd
  have hl := hid (Lib.itoa_length_le n h.1 h.2)
  by_cases hn : n < 0
  · have e1 := hid (show Lib.itoa n = 45 :: Lib.decDigits n.natAbs by unfold Lib.itoa; rw [if_pos hn])
    go_enter Tryz.func74, Tryz.ntmps74
    go_wp2_with fail
    refine (digits_any n.natAbs n w (Nat.le_refl _) (by omega) (by omega)).mono ?_
    rintro e w' ⟨rfl, hB⟩
    have hs : (bs (Lib.decDigits n.natAbs)).size ≤ 21 := by
      rw [bs_size]
      have := hl.out
      rw [e1.out] at this
      simp at this
      omega
    have hs1 : (({ data := #[45] } : ByteArray)).size = 1 := rfl
    go_wp2_with fail
    go_ret
    exact ⟨ret_str (by rw [show ({ data := #[45] } : ByteArray) = bs [45] from rfl, bs_app, bs_one, encI, e1.out]; rfl), hB⟩
  · have e1 := hid (show Lib.itoa n = Lib.decDigits n.natAbs by unfold Lib.itoa; rw [if_neg hn]; congr 1; omega)
    go_enter Tryz.func74, Tryz.ntmps74
    go_wp2_with fail
    refine (digits_any n.natAbs (-n) w (by omega) (by omega) (by omega)).mono ?_
    rw [Int.natAbs_neg]
    rintro e w' ⟨rfl, hB⟩
    have hs : (bs (Lib.decDigits n.natAbs)).size ≤ 21 := by
      rw [bs_size]
      have := hl.out
      rw [e1.out] at this
      omega
    go_wp2_with fail
    go_ret
    exact ⟨ret_str (by rw [bs_one, encI, e1.out]), hB⟩
set_option maxRecDepth 100000 in
set_option maxHeartbeats 400000 in
theorem rNum_any (n : Int) (h : I64 n) (w : World) : Calls Tryz.prog 72 #[.int .i64 n] w fun e w' => e = .returned (.string (bs (if n < 0 then [] else encI n))) ∧ Below w.heap.size w w' := by
  by_cases hn : n < 0
  · go_enter Tryz.func72, Tryz.ntmps72
    go_wp2_with fail
    go_ret
    exact ⟨ret_str (by simp [bs, hn]), Below.refl _ _⟩
  · go_enter Tryz.func72, Tryz.ntmps72
    go_wp2_with fail
    refine (rInt_any n h w).mono ?_
    rintro e w' ⟨rfl, hB⟩
    go_wp2_with fail
    go_ret
    exact ⟨ret_str (by simp [hn]), hB⟩
theorem dig_len (n : Nat) (h : n ≤ 9223372036854775807) : (bs (Lib.decDigits n)).size ≤ 21 := by
  rw [bs_size]
  have h4 := Lib.itoa_length_le (n : Int) (by omega) (by omega)
  rw [Lib.itoa_nonneg] at h4
  exact h4
set_option maxRecDepth 100000 in
set_option maxHeartbeats 400000 in
theorem rText_any (s : ByteArray) (h : s.size ≤ 1000000000) (w : World) : Calls Tryz.prog 73 #[.string s] w fun e w' => e = .returned (.string (bs (encT s.data.toList))) ∧ Below w.heap.size w w' := by
  go_enter Tryz.func73, Tryz.ntmps73
  go_wp2_with fail
  refine (digits_any s.size (-(s.size : Int)) w (by omega) (by omega) (by omega)).mono ?_
  rw [Int.natAbs_neg, Int.natAbs_natCast, ← Lib.itoa_nonneg]
  rintro e w' ⟨rfl, hB⟩
  have hs : (bs (Lib.itoa s.size)).size ≤ 21 := by rw [bs_size]; exact Lib.itoa_length_le s.size (by omega) (by omega)
  go_wp2_with fail
  go_ret
  exact ⟨ret_str (encT_bytes s), hB⟩

theorem SlR.str {w : World} {B : Nat} {A : Option Addr} {l : List ByteArray} (h : SlR w B A l) {k : Nat} (hk : k < l.length) : ∃ b off, A = some ⟨b, off, none⟩ ∧ b < B ∧ w.cell? ⟨b, off + k, none⟩ = some (.string l[k]) := by
  obtain ⟨b, off, es, hA, hb, _, hc, rfl, hi⟩ := h k _ (List.getElem?_eq_getElem hk)
  exact ⟨b, off, hA, hb, by have := hc 0 _ rfl; simpa [Rep.size] using this⟩

/-- What a list's encoding is: its elements' encodings are 'es'. -/
def encL (es : List (List UInt8)) : List UInt8 := Lib.itoa es.length ++ [91] ++ es.flatten ++ [93]
def hd (n : Nat) : List UInt8 := Lib.itoa n ++ [91]
theorem hd_len (n : Nat) (h : n ≤ 9223372036854775807) : (hd n).length ≤ 22 := by
  have := Lib.itoa_length_le (n : Int) (by omega) (by omega)
  simp [hd]; omega
theorem flat_le (es : List (List UInt8)) (k : Nat) : (es.take k).flatten.length ≤ es.flatten.length := by
  have : es.flatten = (es.take k).flatten ++ (es.drop k).flatten := by rw [← List.flatten_append, List.take_append_drop]
  rw [this, List.length_append]; omega
theorem flat_snoc (es : List (List UInt8)) (k : Nat) (h : k < es.length) : (es.take (k + 1)).flatten = (es.take k).flatten ++ es[k] := by
  rw [List.take_add_one, List.getElem?_eq_getElem h, List.flatten_append]
  show _ ++ [es[k]].flatten = _
  rw [List.flatten_cons, List.flatten_nil, List.append_nil]

def encB (s : ByteArray) : List UInt8 := encT s.data.toList
end Go.Proofs.YtfpehakllnkaeaaGreatDoor
