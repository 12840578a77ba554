
/- Wire: comparing lists; the laws' small functions. -/
import Derived.Test.YtbefmjodpndndaaDoorWireRv
import Derived.Test.YtbefmjodpndndaaDoorWireN
import Derived.Deep.RegionHeld3
set_option linter.unusedSimpArgs false
set_option linter.unusedVariables false
namespace Go.Proofs.YtbefmjodpndndaaDoor
open Go.RowKit Go.IntWalk

theorem take_eq_all {α : Type} {l1 l2 : List α} {k : Nat} (h : l1.take k = l2.take k) (h1 : k = l1.length) (h2 : l1.length = l2.length) : l1 = l2 := by
  rw [List.take_of_length_le (by omega), List.take_of_length_le (by omega)] at h; exact h
theorem take_eq_snoc {α : Type} {l1 l2 : List α} {k : Nat} (h : l1.take k = l2.take k) (h1 : k < l1.length) (h2 : k < l2.length) (h3 : l1[k] = l2[k]) : l1.take (k + 1) = l2.take (k + 1) := by
  rw [List.take_add_one, List.take_add_one, h, List.getElem?_eq_getElem h1, List.getElem?_eq_getElem h2, h3]
theorem take_ne {α : Type} {l1 l2 : List α} {k : Nat} (h1 : k < l1.length) (h2 : k < l2.length) (h3 : l1[k] ≠ l2[k]) : l1 ≠ l2 := by
  intro h; subst h; exact h3 rfl
theorem bsl_inj {x y : ByteArray} (h : x.toList = y.toList) : x = y := by
  have e : ∀ z : ByteArray, z.toList = z.data.toList := fun z => by rw [← bs_of z, bs_list]; simp [bs]
  rw [e, e] at h
  rw [← bs_of x, ← bs_of y, h]
set_option maxRecDepth 100000 in
set_option maxHeartbeats 1000000 in
theorem sameTexts_any (A1 A2 : Option Addr) (c1 c2 : Nat) (l1 l2 : List ByteArray) (w : World) (hs1 : SlR w w.heap.size A1 l1) (hs2 : SlR w w.heap.size A2 l2) (h1 : l1.length ≤ maxLen) (h2 : l2.length ≤ maxLen) :
    Calls Tryd.prog 17 #[.slice A1 l1.length c1, .slice A2 l2.length c2] w fun e w' => e = .returned (.bool (decide (l1 = l2))) ∧ Below w.heap.size w w' := by
  unfold maxLen at h1 h2
  by_cases hn : l1.length = l2.length
  · have hN := hid hn
    rw [← hn]
    clear hn h2
    go_enter Tryd.func17, Tryd.ntmps17
    go_wp2_with fail
    go_loopw [5] (fun i wr => ∃ k : Nat, k ≤ l1.length ∧ i = .int .i64 k ∧ Hid (l1.take k = l2.take k) ∧ Below w.heap.size w wr) (fun i _ => l1.length - (intOf i).toNat)
    case atStart => exact ⟨0, by omega, rfl, by simp [Hid], by (repeat (first | exact Below.refl _ _ | assumption | refine below_drewN ?_ _ | refine Below.drew ?_ | refine Below.alloc ?_ (by (try simp); (try omega)) _ | refine Below.setCell ?_ (by (try simp); (try omega)) _))⟩
    case round =>
      obtain ⟨k, hk, rfl, ht, hB⟩ := hrel
      by_cases hlt : k < l1.length
      · have hlt2 : k < l2.length := by have := hN.out; omega
        obtain ⟨b1, o1, rfl, _, g1⟩ := (hs1.below hB).str hlt
        obtain ⟨b2, o2, rfl, _, g2⟩ := (hs2.below hB).str hlt2
        have hne := hid (take_ne hlt hlt2)
        have hsn := hid (take_eq_snoc ht.out hlt hlt2)
        have hlt' : (k : Int) < l1.length := by omega
        generalize l1[k] = x at *
        generalize l2[k] = y at *
        clear hlt2 ht
        by_cases hxy : x = y
        · subst hxy
          have hs9 := hid (hsn.out rfl)
          clear hsn
          go_wp2_with fail
          go_quiet (fail)
          go_wp2_with fail
          go_roundw
          case rel => exact ⟨k + 1, by omega, by go_num, hs9.out, by (repeat (first | exact Below.refl _ _ | assumption | refine below_drewN ?_ _ | refine Below.drew ?_ | refine Below.alloc ?_ (by (try simp); (try omega)) _ | refine Below.setCell ?_ (by (try simp); (try omega)) _))⟩
          case measure => (try simp [intOf]) <;> omega
        · have hd := hid (show decide (l1 = l2) = false by simp [hne.out hxy])
          have hxy' : (x.toList == y.toList) = false := by
            simp only [beq_eq_false_iff_ne]
            exact fun h => hxy (bsl_inj h)
          go_wp2_with fail
          go_quiet (fail)
          go_wp2_with fail
          go_ret
          exact ⟨ret_bool hd.out.symm, by (repeat (first | exact Below.refl _ _ | assumption | refine below_drewN ?_ _ | refine Below.drew ?_ | refine Below.alloc ?_ (by (try simp); (try omega)) _ | refine Below.setCell ?_ (by (try simp); (try omega)) _))⟩
      · have hd := hid (show decide (l1 = l2) = true by simp [take_eq_all ht.out (by omega) hN.out])
        go_wp2_with fail
        go_ret
        exact ⟨ret_bool hd.out.symm, by (repeat (first | exact Below.refl _ _ | assumption | refine below_drewN ?_ _ | refine Below.drew ?_ | refine Below.alloc ?_ (by (try simp); (try omega)) _ | refine Below.setCell ?_ (by (try simp); (try omega)) _))⟩
  · have hd := hid (show decide (l1 = l2) = false by simp; intro h; exact hn (by rw [h]))
    go_enter Tryd.func17, Tryd.ntmps17
    go_wp2_with fail
    go_ret
    exact ⟨ret_bool hd.out.symm, by (repeat (first | exact Below.refl _ _ | assumption | refine below_drewN ?_ _ | refine Below.drew ?_ | refine Below.alloc ?_ (by (try simp); (try omega)) _ | refine Below.setCell ?_ (by (try simp); (try omega)) _))⟩
theorem tmod5 (n : Int) : (n.tmod 5 < 0 → n % 5 = n.tmod 5 + 5) ∧ (¬ n.tmod 5 < 0 → n % 5 = n.tmod 5) ∧ n.tmod 5 < 5 ∧ -5 < n.tmod 5 := by
  rcases Int.le_total 0 n with h | h
  · obtain ⟨m, rfl⟩ : ∃ m : Nat, n = m := ⟨n.toNat, by omega⟩
    have : ((m : Int).tmod 5) = ((m % 5 : Nat) : Int) := rfl
    rw [this]
    omega
  · obtain ⟨m, rfl⟩ : ∃ m : Nat, n = -(m : Int) := ⟨n.natAbs, by omega⟩
    have : ((-(m : Int)).tmod 5) = -((m % 5 : Nat) : Int) := by rw [Int.neg_tmod]; rfl
    rw [this]
    omega
end Go.Proofs.YtbefmjodpndndaaDoor
