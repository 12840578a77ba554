
/- Game: the reference's within and Right. -/
import Derived.Test.YtiaplhdgchbkkaaGamY
import Derived.Test.YtiaplhdgchbkkaaReg
set_option linter.unusedSimpArgs false
set_option linter.unusedVariables false
namespace Go.Proofs.Ytiaplhdgchbkkaa
open Go.RowKit Go.IntWalk Go.Shelf

def withinL (R : List Int) (tos : List Int) (r : Int) : Bool := tos.all (fun t => decide (0 ≤ R.getD t.toNat 0) && decide (R.getD t.toNat 0 ≤ r))
set_option maxRecDepth 100000 in
set_option maxHeartbeats 2000000 in
theorem within_any (A B : Option Addr) (c d : Nat) (R : List Int) (act : Int) (tos : List Int) (r : Int) (w : World) (hl : R.length ≤ maxLen) (ht : tos.length ≤ maxLen) (h1 : SlR w w.heap.size A R) (h2 : SlR w w.heap.size B tos) (hr : ∀ t ∈ tos, 0 ≤ t ∧ t < R.length) :
    Calls Try.prog 29 #[.slice A R.length c, .agg #[.int .i64 act, .slice B tos.length d], .int .i64 r] w fun e w' => e = .returned (.bool (withinL R tos r)) ∧ Below w.heap.size w w' := by
  unfold maxLen at hl ht
  have hB1 := hid (show Below w.heap.size w (w.alloc (Obj.cells #[.int .i64 act, .slice B tos.length d] 41)) by (repeat (first | exact Below.refl _ _ | assumption | refine below_drewN ?_ _ | refine Below.drew ?_ | refine Below.alloc ?_ (by (try simp); (try omega)) _ | refine Below.setCell ?_ (by (try simp); (try omega)) _)))
  have X1 := hid (Blk.new w 41 #[.int .i64 act, .slice B tos.length d])
  have HR := hid hr
  clear hr
  go_enter Try.func29, Try.ntmps29
  go_upto_region 1 with fail
  generalize hw1 : w.alloc (Obj.cells #[.int .i64 act, .slice B tos.length d] 41) = w1 at hB1 X1 ⊢
  clear hw1
  have x1 := X1.out.cell 1; have xz := X1.out.lt
  simp at x1
  go_wp2_with fail
  go_loopw [7] (fun i wr => ∃ k : Nat, k ≤ tos.length ∧ i = .int .i64 k ∧ w1 = wr ∧ withinL R (tos.take k) r = true) (fun i _ => tos.length - (intOf i).toNat)
  case atStart => exact ⟨0, by omega, rfl, rfl, by simp [withinL]⟩
  case round =>
    obtain ⟨k, hk, rfl, rfl, ha⟩ := hrel
    have HA := hid ha
    clear ha
    by_cases hlt : k < tos.length
    · have hlt' : (k : Int) < tos.length := by omega
      obtain ⟨b, off, rfl, hb, hc, _⟩ := h2.int hlt
      replace hc := (bcell hB1.out b _ hb).trans hc
      have hz : b < w1.heap.size := by have := hB1.out.size; omega
      have hst := hid (show withinL R (tos.take (k + 1)) r = (decide (0 ≤ R.getD tos[k].toNat 0) && decide (R.getD tos[k].toNat 0 ≤ r)) by
        have h3 := all_take (fun t : Int => decide (0 ≤ R.getD t.toNat 0) && decide (R.getD t.toNat 0 ≤ r)) tos k hlt
        have h4 := HA.out
        unfold withinL at h4 ⊢
        rw [h3, h4, Bool.true_and])
      have hno := hid (show (decide (0 ≤ R.getD tos[k].toNat 0) && decide (R.getD tos[k].toNat 0 ≤ r)) = false → false = withinL R tos r from fun h => by
        symm
        cases hx : withinL R tos r with
        | false => rfl
        | true =>
          unfold withinL at hx
          rw [List.all_eq_true] at hx
          have := hx _ (List.getElem_mem hlt)
          rw [h] at this; cases this)
      obtain ⟨hr0, hr1⟩ := HR.out _ (List.getElem_mem hlt)
      generalize tos[k] = t at *
      obtain ⟨tn, rfl⟩ : ∃ tn : Nat, t = tn := ⟨t.toNat, by omega⟩
      have htl : tn < R.length := by omega
      obtain ⟨b2, off2, rfl, hb2, hc2, _⟩ := h1.int htl
      replace hc2 := (bcell hB1.out b2 _ hb2).trans hc2
      have hz2 : b2 < w1.heap.size := by have := hB1.out.size; omega
      have hgd : R.getD (tn : Int).toNat 0 = R[tn] := by simp [htl]
      rw [hgd] at hst hno
      clear hgd
      generalize R[tn] = x at *
      by_cases hx : x < 0
      · as_aux_lemma =>
          go_wp2_with fail
          go_ret
          exact ⟨ret_bool (hno.out (by have : ¬ 0 ≤ x := (by omega); simp [this])), hB1.out⟩
      by_cases hxr : r < x
      · as_aux_lemma =>
          go_wp2_with fail
          go_ret
          exact ⟨ret_bool (hno.out (by have : ¬ x ≤ r := (by omega); simp [this])), hB1.out⟩
      as_aux_lemma =>
        go_wp2_with fail
        go_roundw
        case rel => exact ⟨k + 1, by omega, by go_num, by first | trivial | rfl, by rw [hst.out]; simp; omega⟩
        case measure => simp [intOf]; omega
    · obtain rfl : k = tos.length := by omega
      have hfin := hid (show withinL R tos r = true by have := HA.out; rwa [List.take_length] at this)
      as_aux_lemma =>
        go_wp2_with fail
        go_ret
        exact ⟨ret_bool hfin.out.symm, hB1.out⟩
end Go.Proofs.Ytiaplhdgchbkkaa
