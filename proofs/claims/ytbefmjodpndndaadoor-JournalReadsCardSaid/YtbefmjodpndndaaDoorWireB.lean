
/- Wire: the reference's Int, Num, Text; lists. -/
import Derived.Test.YtbefmjodpndndaaDoorRepStr
import Derived.Test.YtbefmjodpndndaaDoorWireA
set_option linter.unusedSimpArgs false
set_option linter.unusedVariables false
namespace Go.Proofs.YtbefmjodpndndaaDoor
open Go.RowKit Go.IntWalk

theorem dig_len (n : Nat) (h : n ≤ 9223372036854775807) : (bs (Lib.decDigits n)).size ≤ 21 := by
  rw [bs_size]
  have h4 := Lib.itoa_length_le (n : Int) (by omega) (by omega)
  rw [Lib.itoa_nonneg] at h4
  exact h4
theorem SlR.str {w : World} {B : Nat} {A : Option Addr} {l : List ByteArray} (h : SlR w B A l) {k : Nat} (hk : k < l.length) : ∃ b off, A = some ⟨b, off, none⟩ ∧ b < B ∧ w.cell? ⟨b, off + k, none⟩ = some (.string l[k]) := by
  obtain ⟨b, off, es, hA, hb, _, hc, rfl, hi⟩ := h k _ (List.getElem?_eq_getElem hk)
  exact ⟨b, off, hA, hb, by have := hc 0 _ rfl; simpa [Rep.size] using this⟩

/-- What a list's encoding is: its elements' encodings are 'es'. -/
def encL (es : List (List UInt8)) : List UInt8 := Lib.itoa es.length ++ [91] ++ es.flatten ++ [93]
def hd (n : Nat) : List UInt8 := Lib.itoa n ++ [91]
theorem hd_len (n : Nat) (h : n ≤ 9223372036854775807) : (hd n).length ≤ 22 := by
  have := Lib.itoa_length_le (n : Int) (by omega) (by omega)
  simp [hd]; omega
theorem flat_le (es : List (List UInt8)) (k : Nat) : (es.take k).flatten.length ≤ es.flatten.length := by
  have : es.flatten = (es.take k).flatten ++ (es.drop k).flatten := by rw [← List.flatten_append, List.take_append_drop]
  rw [this, List.length_append]; omega
theorem flat_snoc (es : List (List UInt8)) (k : Nat) (h : k < es.length) : (es.take (k + 1)).flatten = (es.take k).flatten ++ es[k] := by
  rw [List.take_add_one, List.getElem?_eq_getElem h, List.flatten_append]
  show _ ++ [es[k]].flatten = _
  rw [List.flatten_cons, List.flatten_nil, List.append_nil]

def encB (s : ByteArray) : List UInt8 := encT s.data.toList
end Go.Proofs.YtbefmjodpndndaaDoor
