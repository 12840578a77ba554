
/- Layouts: equality, and which one comes before. -/
import Derived.Test.YtgbgcmhmlnmklaaGreatDoorLayD
set_option linter.unusedSimpArgs false
set_option linter.unusedVariables false
namespace Go.Proofs.YtgbgcmhmlnmklaaGreatDoor
open Go.RowKit Go.IntWalk

def sameL (l1 l2 : List Bool) (t1 t2 : Int) : Bool := decide (t1 = t2) && decide (l1 = l2)
theorem drop_step (l : List Bool) (k : Nat) (h : k < l.length) : l.drop k = l[k] :: l.drop (k+1) := List.drop_eq_getElem_cons h

set_option maxRecDepth 100000 in
set_option maxHeartbeats 400000 in
theorem same_any (A1 A2 : Option Addr) (c1 c2 : Nat) (l1 l2 : List Bool) (t1 t2 : Int) (w : World) (hl1 : l1.length ≤ maxLen) (hl2 : l2.length ≤ maxLen) (hs1 : SlR w w.heap.size A1 l1) (hs2 : SlR w w.heap.size A2 l2) :
    Calls Tryz.prog 9 #[.agg #[.slice A1 l1.length c1, .int .i64 t1], .agg #[.slice A2 l2.length c2, .int .i64 t2]] w fun e w' => e = .returned (.bool (sameL l1 l2 t1 t2)) ∧ Below w.heap.size w w' := by
  unfold maxLen at hl1 hl2
  by_cases ht : t1 = t2
  · by_cases hn : l1.length = l2.length
    · have Hn := hid hn
      have e1 : (t1 != t2) = false := by simp [ht]
      have e2 : ((l1.length : Int) != (l2.length : Int)) = false := by simp [hn]
      have Ht := hid ht
      clear ht
      go_enter Tryz.func9, Tryz.ntmps9
      clear hn
      go_wp2_with fail
      have R0 : Hid (decide (l1 = l2) = decide (l1.drop 0 = l2.drop 0)) := by simp [Hid]
      go_loopw [5] (fun i wr => ∃ k nq : Nat, k ≤ l1.length ∧ i = .int .i64 k ∧ Hid (decide (l1 = l2) = decide (l1.drop k = l2.drop k)) ∧
          wr = World.drewN ((w.alloc (.cells #[.slice A1 l1.length c1, .int .i64 t1] 27)).alloc (.cells #[.slice A2 l2.length c2, .int .i64 t2] 27)) nq) (fun i _ => l1.length - (intOf i).toNat)
      case atStart => exact ⟨0, 0, Nat.zero_le _, rfl, R0, rfl⟩
      case round =>
        clear R0
        obtain ⟨k, nq, hk, rfl, hr, rfl⟩ := hrel
        have hb0 : Below w.heap.size w ((w.alloc (.cells #[.slice A1 l1.length c1, .int .i64 t1] 27)).alloc (.cells #[.slice A2 l2.length c2, .int .i64 t2] 27)) := ((Below.refl _ w).alloc (Nat.le_refl _) _).alloc (by simp) _
        by_cases hlt : k < l1.length
        · have hlt2 : k < l2.length := by have := Hn.out; omega
          obtain ⟨b1, o1, rfl, hb1, g1⟩ := (hs1.below hb0).bool hlt
          obtain ⟨b2, o2, rfl, hb2, g2⟩ := (hs2.below hb0).bool hlt2
          have d1 := drop_step l1 k hlt
          have d2 := drop_step l2 k hlt2
          have i1 : (k:Int) < l1.length := by omega
          have i2 : (k:Int) < l2.length := by omega
          cases h1 : l1[k] <;> cases h2 : l2[k]
          all_goals
            rw [h1] at g1 d1
            rw [h2] at g2 d2
            have hr2 := hid (show decide (l1 = l2) = _ from hr.out.trans (by rw [d1, d2]))
            clear d1 d2 h1 h2 hr hb0
            go_wp2_with fail
            go_quiet (fail)
            go_wp2
          · go_roundw
            case rel => exact ⟨k+1, _, by omega, by go_num, by rw [hr2.out]; simp [Hid], rfl⟩
            case measure => simp [intOf]; omega
          · go_ret
            exact ⟨ret_bool (by simp [sameL, hr2.out]), below_drewN (below_drewN (((Below.refl _ w).alloc (Nat.le_refl _) _).alloc (by simp) _) _) _⟩
          · go_ret
            exact ⟨ret_bool (by simp [sameL, hr2.out]), below_drewN (below_drewN (((Below.refl _ w).alloc (Nat.le_refl _) _).alloc (by simp) _) _) _⟩
          · go_roundw
            case rel => exact ⟨k+1, _, by omega, by go_num, by rw [hr2.out]; simp [Hid], rfl⟩
            case measure => simp [intOf]; omega
        · have he : Hid (decide (l1 = l2) = true) := by
            have := Hn.out
            have := hr.out
            rw [List.drop_eq_nil_of_le (by omega), List.drop_eq_nil_of_le (by omega)] at this
            simpa [Hid] using this
          clear hr
          go_wp2
          go_ret
          exact ⟨ret_bool (by simp [sameL, he.out, Ht.out]), below_drewN (((Below.refl _ w).alloc (Nat.le_refl _) _).alloc (by simp) _) _⟩
    · have e1 : (t1 != t2) = false := by simp [ht]
      have e2 : ((l1.length : Int) != (l2.length : Int)) = true := by simp; omega
      have hr := hid (show sameL l1 l2 t1 t2 = false by simp [sameL]; intro _ h; exact hn (by rw [h]))
      clear ht hn
      go_enter Tryz.func9, Tryz.ntmps9
      go_wp2
      go_ret
      exact ⟨ret_bool hr.out.symm, ((Below.refl _ w).alloc (Nat.le_refl _) _).alloc (by simp) _⟩
  · have e1 : (t1 != t2) = true := by simp [ht]
    have hr := hid (show sameL l1 l2 t1 t2 = false by simp [sameL, ht])
    clear ht
    go_enter Tryz.func9, Tryz.ntmps9
    go_wp2
    go_ret
    exact ⟨ret_bool hr.out.symm, ((Below.refl _ w).alloc (Nat.le_refl _) _).alloc (by simp) _⟩

def beforeL (l1 l2 : List Bool) (t1 t2 : Int) : Bool := if t1 = t2 then lexB l1 l2 else decide (t1 < t2)
theorem lexB_nil (l1 l2 : List Bool) (h : l1 = [] ∨ l2 = []) : lexB l1 l2 = false := by
  rcases h with rfl | rfl
  · rfl
  · cases l1 <;> rfl
end Go.Proofs.YtgbgcmhmlnmklaaGreatDoor
