
/- Lease: the reference's Same of numbers. -/
import Derived.Test.YtappgjdnfllblaaDoorLzA
set_option linter.unusedSimpArgs false
set_option linter.unusedVariables false
namespace Go.Proofs.YtappgjdnfllblaaDoor
open Go.RowKit Go.IntWalk

theorem dropI_step (l : List Int) (k : Nat) (h : k < l.length) : l.drop k = l[k] :: l.drop (k+1) := List.drop_eq_getElem_cons h
set_option maxRecDepth 100000 in
set_option maxHeartbeats 1000000 in
theorem sameI_any (A1 A2 : Option Addr) (c1 c2 : Nat) (l1 l2 : List Int) (w : World) (hl1 : l1.length ≤ maxLen) (hl2 : l2.length ≤ maxLen) (hs1 : SlR w w.heap.size A1 l1) (hs2 : SlR w w.heap.size A2 l2) :
    Calls Tryd.prog 33 #[.slice A1 l1.length c1, .slice A2 l2.length c2] w fun e w' => e = .returned (.bool (decide (l1 = l2))) ∧ Below w.heap.size w w' := by
  unfold maxLen at hl1 hl2
  by_cases hn : l1.length = l2.length
  · have Hn := hid hn
    have e2 : ((l1.length : Int) != (l2.length : Int)) = false := by simp [hn]
    go_enter Tryd.func33, Tryd.ntmps33
    clear hn
    go_wp2_with fail
    clear e2
    have R0 : Hid (decide (l1 = l2) = decide (l1.drop 0 = l2.drop 0)) := by simp [Hid]
    go_loopw [5] (fun i wr => ∃ k nq : Nat, k ≤ l1.length ∧ i = .int .i64 k ∧ Hid (decide (l1 = l2) = decide (l1.drop k = l2.drop k)) ∧ wr = World.drewN w nq) (fun i _ => l1.length - (intOf i).toNat)
    case atStart => exact ⟨0, 0, Nat.zero_le _, rfl, R0, rfl⟩
    case round =>
      clear R0
      obtain ⟨k, nq, hk, rfl, hr, rfl⟩ := hrel
      by_cases hlt : k < l1.length
      · have hlt2 : k < l2.length := by have := Hn.out; omega
        obtain ⟨b1, o1, rfl, hb1, g1, _⟩ := hs1.int hlt
        obtain ⟨b2, o2, rfl, hb2, g2, _⟩ := hs2.int hlt2
        have d1 := dropI_step l1 k hlt
        have d2 := dropI_step l2 k hlt2
        have i1 : (k:Int) < l1.length := by omega
        have i2 : (k:Int) < l2.length := by omega
        generalize l1[k] = x at *
        generalize l2[k] = y at *
        by_cases hxy : x = y
        · have e1 : (x != y) = false := by simp [hxy]
          have hr2 := hid (show decide (l1 = l2) = decide (l1.drop (k+1) = l2.drop (k+1)) from hr.out.trans (by rw [d1, d2]; simp [hxy]))
          clear d1 d2 hr hxy
          go_wp2_with fail
          go_quiet (fail)
          go_wp2
          go_roundw
          case rel => exact ⟨k+1, _, by omega, by go_num, hr2.out, rfl⟩
          case measure => simp [intOf]; omega
        · have e1 : (x != y) = true := by simp [hxy]
          have hr2 := hid (show decide (l1 = l2) = false from hr.out.trans (by rw [d1, d2]; simp [hxy]))
          clear d1 d2 hr hxy
          go_wp2_with fail
          go_quiet (fail)
          go_wp2
          go_ret
          exact ⟨ret_bool hr2.out.symm, by (repeat (first | exact Below.refl _ _ | assumption | refine below_drewN ?_ _ | refine Below.drew ?_ | refine Below.alloc ?_ (by (try simp); (try omega)) _ | refine Below.setCell ?_ (by (try simp); (try omega)) _))⟩
      · have he : Hid (decide (l1 = l2) = true) := by
          have := Hn.out
          have := hr.out
          rw [List.drop_eq_nil_of_le (by omega), List.drop_eq_nil_of_le (by omega)] at this
          simpa [Hid] using this
        clear hr
        go_wp2
        go_ret
        exact ⟨ret_bool he.out.symm, by (repeat (first | exact Below.refl _ _ | assumption | refine below_drewN ?_ _ | refine Below.drew ?_ | refine Below.alloc ?_ (by (try simp); (try omega)) _ | refine Below.setCell ?_ (by (try simp); (try omega)) _))⟩
  · have e2 : ((l1.length : Int) != (l2.length : Int)) = true := by simp; omega
    have hr := hid (show decide (l1 = l2) = false by simp; intro h; exact hn (by rw [h]))
    clear hn
    go_enter Tryd.func33, Tryd.ntmps33
    go_wp2
    go_ret
    exact ⟨ret_bool hr.out.symm, Below.refl _ _⟩

end Go.Proofs.YtappgjdnfllblaaDoor
