
/- Petri: Weight. -/
import Derived.Test.YtbbogflibekgfaaDoorPetI
set_option linter.unusedSimpArgs false
set_option linter.unusedVariables false
namespace Go.Proofs.YtbbogflibekgfaaDoor
open Go.RowKit Go.IntWalk Go.Shelf

def weightN (m w : List Int) : Int := ((m.zip w).map (fun p => p.1 * p.2)).sum
theorem zip_take : ∀ (m w : List Int) (k : Nat), (m.take k).zip (w.take k) = (m.zip w).take k
  | [], _, k => by simp
  | _ :: _, [], k => by cases k <;> simp
  | x :: m, y :: w, 0 => rfl
  | x :: m, y :: w, k + 1 => by simp [zip_take m w k]
theorem weightN_take (m w : List Int) (k : Nat) (h1 : k < m.length) (h2 : k < w.length) : weightN (m.take (k + 1)) (w.take (k + 1)) = weightN (m.take k) (w.take k) + m[k] * w[k] := by
  unfold weightN
  rw [zip_take, zip_take, List.take_add_one, List.getElem?_eq_getElem (by rw [List.length_zip]; omega), List.map_append, List.sum_append]
  simp
theorem mul_in {a b : Int} (ha : 0 ≤ a ∧ a ≤ 1099511627776) (hb : -100000 ≤ b ∧ b ≤ 100000) : -109951162777600000 ≤ a * b ∧ a * b ≤ 109951162777600000 := by
  have h1 : a * b ≤ a * 100000 := Int.mul_le_mul_of_nonneg_left hb.2 ha.1
  have h2 : a * (-100000) ≤ a * b := Int.mul_le_mul_of_nonneg_left hb.1 ha.1
  omega
theorem weightN_in (m w : List Int) (hm : ∀ x ∈ m, 0 ≤ x ∧ x ≤ 1099511627776) (hw : ∀ x ∈ w, -100000 ≤ x ∧ x ≤ 100000) : ∀ k : Nat, k ≤ m.length → k ≤ w.length → -((k : Int) * 109951162777600000) ≤ weightN (m.take k) (w.take k) ∧ weightN (m.take k) (w.take k) ≤ (k : Int) * 109951162777600000
  | 0, _, _ => by simp [weightN]
  | k + 1, h1, h2 => by
    have ih := weightN_in m w hm hw k (by omega) (by omega)
    have h3 := mul_in (hm _ (List.getElem_mem (show k < m.length by omega))) (hw _ (List.getElem_mem (show k < w.length by omega)))
    rw [weightN_take m w k (by omega) (by omega)]
    omega
set_option maxRecDepth 100000 in
set_option maxHeartbeats 1000000 in
theorem weight_any (A : Option Addr) (c : Nat) (m : List Int) (B : Option Addr) (d : Nat) (ws : List Int) (w : World) (h : SlR w w.heap.size A m) (hW : SlR w w.heap.size B ws) (hl : m.length ≤ 64) (hlw : m.length = ws.length)
    (hm : ∀ x ∈ m, 0 ≤ x ∧ x ≤ 1099511627776) (hw : ∀ x ∈ ws, -100000 ≤ x ∧ x ≤ 100000) :
    Calls Tryd.prog 22 #[.slice A m.length c, .slice B ws.length d] w fun e w' => e = .returned (.int .i64 (weightN m ws)) ∧ w = w' := by
  have HIN := hid (weightN_in m ws hm hw)
  have HT := hid (weightN_take m ws)
  have HLW := hid hlw
  have hl2 : ws.length ≤ 64 := by omega
  clear hlw
  go_enter Tryd.func22, Tryd.ntmps22
  go_wp2_with fail
  go_loopw [5, 10] (fun x i wr => ∃ k : Nat, k ≤ m.length ∧ i = .int .i64 k ∧ w = wr ∧ x = .int .i64 (weightN (m.take k) (ws.take k))) (fun _ i _ => m.length - (intOf i).toNat)
  case atStart => exact ⟨0, by omega, rfl, rfl, rfl⟩
  case round =>
    obtain ⟨k, hk, rfl, rfl, rfl⟩ := hrel
    by_cases hlt : k < m.length
    · have hlt' : (k : Int) < m.length := by omega
      have hltw : k < ws.length := by have := HLW.out; omega
      have hltw' : (k : Int) < ws.length := by omega
      obtain ⟨b, off, rfl, hb, g0, _⟩ := h.int hlt
      obtain ⟨b2, off2, rfl, hb2, g2, _⟩ := hW.int hltw
      have hi := HIN.out k (by omega) (by omega)
      have hp := mul_in (hm _ (List.getElem_mem hlt)) (hw _ (List.getElem_mem hltw))
      have ht := hid (HT.out k hlt hltw)
      generalize m[k] = x at *
      generalize ws[k] = y at *
      generalize hxy : x * y = z at *
      generalize weightN (m.take k) (ws.take k) = s at *
      have hs : -7036874417766400000 ≤ s ∧ s ≤ 7036874417766400000 := by omega
      have hz : IntKind.i64.wrap (x * y) = z := by rw [hxy]; simp [IntKind.wrap, IntKind.bits, IntKind.signed]; omega
      go_wp2_with fail
      go_roundw
      case rel => exact ⟨k + 1, by omega, by go_num, by first | trivial | rfl, by rw [ht.out]⟩
      case measure => simp [intOf]; omega
    · obtain rfl : k = m.length := by omega
      have hfin := hid (show weightN (m.take m.length) (ws.take m.length) = weightN m ws by rw [List.take_length, HLW.out, List.take_length])
      generalize weightN (m.take m.length) (ws.take m.length) = s at *
      go_wp2_with fail
      go_ret
      exact ⟨by rw [← hfin.out]; rfl, rfl⟩
end Go.Proofs.YtbbogflibekgfaaDoor
