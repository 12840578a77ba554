
/- Petri: the sum of Invariant. -/
import Derived.Test.YtbbogflibekgfaaDoorPetM
set_option linter.unusedSimpArgs false
set_option linter.unusedVariables false
namespace Go.Proofs.YtbbogflibekgfaaDoor
open Go.RowKit Go.IntWalk Go.Shelf

def sumN (ws s : List Int) : Int := (s.map (fun p => ws.getD p.toNat 0)).sum
theorem sumN_take (ws s : List Int) (k : Nat) (h : k < s.length) : sumN ws (s.take (k + 1)) = sumN ws (s.take k) + ws.getD s[k].toNat 0 := by
  unfold sumN
  rw [List.take_add_one, List.getElem?_eq_getElem h, List.map_append, List.sum_append]
  simp
theorem sumN_in (ws s : List Int) (hw : ∀ x ∈ ws, -100000 ≤ x ∧ x ≤ 100000) : ∀ k : Nat, k ≤ s.length → -((k : Int) * 100000) ≤ sumN ws (s.take k) ∧ sumN ws (s.take k) ≤ (k : Int) * 100000
  | 0, _ => by simp [sumN]
  | k + 1, h => by
    have ih := sumN_in ws s hw k (by omega)
    have h3 : -100000 ≤ ws.getD s[k].toNat 0 ∧ ws.getD s[k].toNat 0 ≤ 100000 := by
      rw [List.getD_eq_getElem?_getD]
      by_cases hp : s[k].toNat < ws.length
      · rw [List.getElem?_eq_getElem hp]; exact hw _ (List.getElem_mem hp)
      · rw [List.getElem?_eq_none (by omega)]; simp
    rw [sumN_take ws s k (by omega)]
    omega
set_option maxRecDepth 100000 in
set_option maxHeartbeats 1000000 in
theorem sum_any (A : Option Addr) (c : Nat) (s : List Int) (B : Option Addr) (d gw : Nat) (ws : List Int) (w : World) (h : SlR w w.heap.size A s) (hW : SlR w w.heap.size B ws) (hl : s.length ≤ 64) (hlw : ws.length ≤ 64)
    (xw : Blk w gw 25 #[.slice B ws.length d]) (hs : ∀ x ∈ s, 0 ≤ x ∧ x < ws.length) (hw : ∀ x ∈ ws, -100000 ≤ x ∧ x ≤ 100000) :
    Calls Tryd.prog 41 #[.slice A s.length c, .pointer (some ⟨gw, 0, none⟩)] w fun e w' => e = .returned (.int .i64 (sumN ws s)) ∧ w = w' := by
  have HIN := hid (sumN_in ws s hw)
  have HT := hid (sumN_take ws s)
  have y0 := xw.cell 0; have z0 := xw.lt
  simp at y0
  clear xw
  go_enter Tryd.func41, Tryd.ntmps41
  go_wp2_with fail
  go_loopw [4, 9] (fun x i wr => ∃ k : Nat, k ≤ s.length ∧ i = .int .i64 k ∧ w = wr ∧ x = .int .i64 (sumN ws (s.take k))) (fun _ i _ => s.length - (intOf i).toNat)
  case atStart => exact ⟨0, by omega, rfl, rfl, rfl⟩
  case round =>
    obtain ⟨k, hk, rfl, rfl, rfl⟩ := hrel
    by_cases hlt : k < s.length
    · have hlt' : (k : Int) < s.length := by omega
      obtain ⟨b, off, rfl, hb, g0, _⟩ := h.int hlt
      have hx := hs _ (List.getElem_mem hlt)
      have ht := hid (HT.out k hlt)
      have hi := HIN.out k (by omega)
      generalize s[k] = x at *
      obtain ⟨p, rfl⟩ : ∃ p : Nat, x = p := ⟨x.toNat, by omega⟩
      have hp : p < ws.length := by omega
      have hp' : (p : Int) < ws.length := by omega
      obtain ⟨b2, off2, rfl, hb2, g2, _⟩ := hW.int hp
      have hy := hw _ (List.getElem_mem hp)
      have ht2 := hid (show sumN ws (s.take (k + 1)) = sumN ws (s.take k) + ws[p] by rw [ht.out]; simp [hp])
      clear ht
      generalize ws[p] = y at *
      generalize sumN ws (s.take k) = a at *
      have ha : -6400000 ≤ a ∧ a ≤ 6400000 := by omega
      go_wp2_with fail
      go_roundw
      case rel => exact ⟨k + 1, by omega, by go_num, by first | trivial | rfl, by rw [ht2.out]⟩
      case measure => simp [intOf]; omega
    · obtain rfl : k = s.length := by omega
      have hfin := hid (show sumN ws (s.take s.length) = sumN ws s by rw [List.take_length])
      generalize sumN ws (s.take s.length) = a at *
      go_wp2_with fail
      go_ret
      exact ⟨by rw [← hfin.out]; rfl, rfl⟩
end Go.Proofs.YtbbogflibekgfaaDoor
