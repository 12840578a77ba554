
/- Petri: the laws' weights. -/
import Derived.Test.YtbbogflibekgfaaDoorPetJ
set_option linter.unusedSimpArgs false
set_option linter.unusedVariables false
namespace Go.Proofs.YtbbogflibekgfaaDoor
open Go.RowKit Go.IntWalk Go.Shelf

def wtF (x : Int) : Bool := decide (x ≤ 100000) && decide (-100000 ≤ x)
def wtOK (n : Int) (ws : List Int) : Bool := ws.all wtF && decide ((ws.length : Int) = n)
set_option maxRecDepth 100000 in
set_option maxHeartbeats 1000000 in
theorem weights_any (n : Int) (A : Option Addr) (c m : Nat) (B : Option Addr) (d : Nat) (ws : List Int) (w : World) (hl : ws.length ≤ maxLen) (hW : SlR w w.heap.size B ws) :
    Calls Tryd.prog 20 #[.agg #[.int .i64 n, .slice A m c], .slice B ws.length d] w fun e w' => e = .returned (.bool (wtOK n ws)) ∧ Below w.heap.size w w' := by
  unfold maxLen at hl
  obtain ⟨w1, hw1⟩ : ∃ w1, w1 = (w.alloc (Obj.cells #[.int .i64 n, .slice A m c] 24)) := ⟨_, rfl⟩
  have B1 : Below w.heap.size w w1 := by rw [hw1]; (repeat (first | exact Below.refl _ _ | assumption | refine below_drewN ?_ _ | refine Below.drew ?_ | refine Below.alloc ?_ (by (try simp); (try omega)) _ | refine Below.setCell ?_ (by (try simp); (try omega)) _))
  have x1 : Blk w1 w.heap.size 24 #[.int .i64 n, .slice A m c] := by rw [hw1]; exact Blk.new w _ _
  have y0 := x1.cell 0; have z1 := x1.lt
  simp at y0
  have HB1 := hid B1
  have h1 := (hW.below B1).more B1.size
  have hno := hid (fun (k : Nat) (hk : k < ws.length) (hf : wtF ws[k] = false) => show wtOK n ws = false by
    unfold wtOK
    have : ws.all wtF = false := by
      rw [List.all_eq_false]
      exact ⟨_, List.getElem_mem hk, by simp [hf]⟩
    rw [this]; rfl)
  clear x1 B1 hW
  go_enter Tryd.func20, Tryd.ntmps20
  go_upto_region 1 with fail
  rw [← hw1]
  clear hw1
  go_upto_region 2 with fail
  go_loopw [5] (fun i wr => ∃ k : Nat, k ≤ ws.length ∧ i = .int .i64 k ∧ w1 = wr ∧ (ws.take k).all wtF = true) (fun i _ => ws.length - (intOf i).toNat)
  case atStart => exact ⟨0, by omega, rfl, rfl, by simp⟩
  case round =>
    obtain ⟨k, hk, rfl, rfl, ht⟩ := hrel
    have HT := hid ht
    clear ht
    by_cases hlt : k < ws.length
    · have hlt' : (k : Int) < ws.length := by omega
      obtain ⟨b, off, rfl, hb, g0, _⟩ := h1.int hlt
      have hf := hid (hno.out k hlt)
      have hst := hid (show (ws.take (k + 1)).all wtF = (wtF ws[k]) by rw [List.take_add_one, List.getElem?_eq_getElem hlt, List.all_append, HT.out]; simp)
      generalize ws[k] = x at *
      by_cases hx : 100000 < x
      · go_wp2_with fail
        go_ret
        exact ⟨ret_bool (by rw [hf.out (by simp [wtF]; omega)]), HB1.out⟩
      · by_cases hx2 : x < -100000
        · go_wp2_with fail
          go_ret
          exact ⟨ret_bool (by rw [hf.out (by simp [wtF]; omega)]), HB1.out⟩
        · go_wp2_with fail
          go_roundw
          case rel => exact ⟨k + 1, by omega, by go_num, by first | trivial | rfl, by rw [hst.out]; simp [wtF]; omega⟩
          case measure => simp [intOf]; omega
    · obtain rfl : k = ws.length := by omega
      rw [List.take_length] at HT
      have HN := hid (show wtOK n ws = decide ((ws.length : Int) = n) by unfold wtOK; rw [HT.out]; rfl)
      go_wp2_with fail
      go_ret
      exact ⟨ret_bool (by rw [HN.out]; first | rfl | (rw [Bool.eq_iff_iff]; simp)), HB1.out⟩
end Go.Proofs.YtbbogflibekgfaaDoor
