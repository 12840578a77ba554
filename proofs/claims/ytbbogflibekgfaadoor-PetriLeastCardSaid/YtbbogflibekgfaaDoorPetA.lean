
/- Petri: isSet; slices.IndexFunc and ContainsFunc with a closure, over numbers and over transitions. -/
import Derived.Test.YtbbogflibekgfaaDoorPetP
import Derived.Test.YtbbogflibekgfaaDoorRowG
set_option linter.unusedSimpArgs false
set_option linter.unusedVariables false
namespace Go.Proofs.YtbbogflibekgfaaDoor
open Go.RowKit Go.IntWalk

theorem drop_cons {α : Type} (l : List α) (k : Nat) (hk : k < l.length) : l.drop k = l[k] :: l.drop (k + 1) := by rw [List.drop_eq_getElem_cons hk]
theorem SlR.tr {w : World} {B : Nat} {A : Option Addr} {l : List Tr} (h : SlR w B A l) {k : Nat} (hk : k < l.length) : ∃ b off A1 c1 A2 c2, A = some ⟨b, off, none⟩ ∧ b < B ∧
    w.cell? ⟨b, off + k * 2, none⟩ = some (.slice A1 l[k].1.length c1) ∧ w.cell? ⟨b, off + k * 2 + 1, none⟩ = some (.slice A2 l[k].2.length c2) ∧ SlR w B A1 l[k].1 ∧ SlR w B A2 l[k].2 ∧ l[k].1.length ≤ maxLen ∧ l[k].2.length ≤ maxLen := by
  obtain ⟨b, off, es, hA, hb, hs, hc, e1, e2, rfl, _, _, ⟨A1, c1, rfl, h1, h2, h3⟩, A2, c2, rfl, k1, k2, k3⟩ := h k _ (List.getElem?_eq_getElem hk)
  have h4 : Rep.size Tr = 2 := rfl
  rw [h4] at hc
  exact ⟨b, off, A1, c1, A2, c2, hA, hb, by simpa using hc 0 _ rfl, by simpa using hc 1 _ rfl, h3, k3, Nat.le_trans h1 h2, Nat.le_trans k1 k2⟩
def lastK (l : List Int) (k : Nat) : Int := if k = 0 then -1 else l.getD (k - 1) 0
theorem lastK_succ (l : List Int) (k : Nat) (hk : k < l.length) : lastK l (k + 1) = l[k] := by simp [lastK, hk]
set_option maxRecDepth 100000 in
set_option maxHeartbeats 1000000 in
theorem isSet_any (n : Int) (A : Option Addr) (c : Nat) (l : List Int) (w : World) (hl : l.length ≤ maxLen) (h : SlR w w.heap.size A l) :
    Calls Tryd.prog 38 #[.int .i64 n, .slice A l.length c] w fun e w' => e = .returned (.bool (setB n l)) ∧ w = w' := by
  unfold maxLen at hl
  go_enter Tryd.func38, Tryd.ntmps38
  go_wp2_with fail
  go_loopw [9] (fun i wr => ∃ k : Nat, k ≤ l.length ∧ i = .int .i64 k ∧ w = wr ∧ asc n (-1) l = asc n (lastK l k) (l.drop k) ∧ -1 ≤ lastK l k) (fun i _ => l.length - (intOf i).toNat)
  case atStart => exact ⟨0, by omega, rfl, rfl, by simp [lastK], by simp [lastK]⟩
  case round =>
    obtain ⟨k, hk, rfl, rfl, ha, hlo⟩ := hrel
    have HA := hid ha
    have HLO := hid hlo
    clear ha hlo
    by_cases hlt : k < l.length
    · have hlt' : (k : Int) < l.length := by omega
      obtain ⟨b, off, rfl, hb, hc0, hi0⟩ := h.int hlt
      have hst : asc n (lastK l k) (l.drop k) = (decide (lastK l k < l[k]) && decide (l[k] < n) && asc n l[k] (l.drop (k + 1))) := by rw [drop_cons l k hlt]; rfl
      have HST := hid hst
      have HL := hid (lastK_succ l k hlt)
      have hprev : 0 < k → w.cell? ⟨b, off + (k - 1), none⟩ = some (.int .i64 (lastK l k)) := fun h0 => by
        have := h.int_at (k := k - 1) (by omega)
        rw [this]; simp [lastK, show ¬ k = 0 by omega, show k - 1 < l.length by omega]
      have hk0 : k = 0 → lastK l k = -1 := fun e => by simp [lastK, e]
      clear hst
      generalize l[k] = x at *
      generalize lastK l k = y at *
      clear hi0
      by_cases hx0 : x < 0
      · go_wp2_with fail
        go_ret
        exact ⟨ret_bool (by unfold setB; rw [HA.out, HST.out]; have := HLO.out; have : ¬ y < x := (by omega); simp [this]), rfl⟩
      by_cases hxn : n ≤ x
      · go_wp2_with fail
        go_ret
        exact ⟨ret_bool (by unfold setB; rw [HA.out, HST.out]; have : ¬ x < n := (by omega); simp [this]), rfl⟩
      by_cases hz : 0 < k
      · have hz' : (0 : Int) < k := by omega
        have hcp := hprev hz
        obtain ⟨j, rfl⟩ : ∃ j, k = j + 1 := ⟨k - 1, by omega⟩
        simp only [Nat.add_sub_cancel] at hcp
        clear hprev hk0
        by_cases hle : x ≤ y
        · go_wp2_with fail
          go_ret
          exact ⟨ret_bool (by unfold setB; rw [HA.out, HST.out]; have : ¬ y < x := (by omega); simp [this]), rfl⟩
        · go_wp2_with fail
          go_roundw
          case rel => exact ⟨j + 1 + 1, by omega, by go_num, by first | trivial | rfl, by rw [HA.out, HST.out, HL.out]; simp; omega, by rw [HL.out]; omega⟩
          case measure => simp [intOf]; omega
      · have hk9 : k = 0 := by omega
        have hy := hk0 hk9
        subst hk9
        clear hprev hk0
        simp only [Nat.add_zero] at hc0
        go_wp2_with fail
        go_roundw
        case rel => exact ⟨1, by omega, by go_num, by first | trivial | rfl, by rw [HA.out, HST.out, HL.out]; simp; omega, by rw [HL.out]; omega⟩
        case measure => simp [intOf]; omega
    · obtain rfl : k = l.length := by omega
      go_wp2_with fail
      go_ret
      exact ⟨ret_bool (by unfold setB; rw [HA.out]; simp [asc]), rfl⟩

set_option maxRecDepth 100000 in
set_option maxHeartbeats 1000000 in
theorem ixi_any (gf : Nat) (lb : Array Value) (eg : ∀ args w, (callFunc gf args).run Tryd.prog w = .ok (.enter gf args) w) (A : Option Addr) (c : Nat) (l : List Int) (f : Int → Bool) (w : World) (hl : l.length ≤ maxLen) (h : SlR w w.heap.size A l)
    (hp : ∀ (x : Int) (W : World), x ∈ l → Below w.heap.size w W → Calls Tryd.prog gf (#[.int .i64 x] ++ lb) W fun e w' => e = .returned (.bool (f x)) ∧ Below w.heap.size w w') :
    Calls Tryd.prog 56 #[.slice A l.length c, .func (.func gf) #[] lb] w fun e w' => ∃ r : Int, e = .returned (.int .i64 r) ∧ (0 ≤ r ↔ l.any f = true) ∧ Below w.heap.size w w' := by
  unfold maxLen at hl
  have HP := hid hp
  clear hp
  go_enter Tryd.func56, Tryd.ntmps56
  go_wp2_with fail
  go_loopw [8] (fun i wr => ∃ k : Nat, k ≤ l.length ∧ i = .int .i64 k ∧ Below w.heap.size w wr ∧ (l.take k).any f = false) (fun i _ => l.length - (intOf i).toNat)
  case atStart => exact ⟨0, by omega, rfl, Below.refl _ _, by simp⟩
  case round =>
    obtain ⟨k, hk, rfl, hB, ht⟩ := hrel
    have HB := hid hB
    have HT := hid ht
    by_cases hlt : k < l.length
    · have hlt' : (k : Int) < l.length := by omega
      obtain ⟨b, off, rfl, hb, g0, _⟩ := h.int hlt
      replace g0 := (bcell hB b _ hb).trans g0
      have hz : b < wr.heap.size := by have := hB.size; omega
      have HC := hid (HP.out l[k] wr (List.getElem_mem hlt) hB)
      have hyes := hid (fun (hq : f l[k] = true) => show l.any f = true from List.any_eq_true.2 ⟨l[k], List.getElem_mem hlt, hq⟩)
      have hno := hid (fun (hq : f l[k] = false) => show (l.take (k + 1)).any f = false from by rw [List.take_add_one, List.getElem?_eq_getElem hlt, List.any_append, ht]; simp [hq])
      clear hB ht
      generalize l[k] = x at *
      cases hq : f x with
      | true =>
        have HQ := hid hq
        rw [hq] at HC
        clear hq
        as_aux_lemma =>
          go_wp2_with fail
          refine HC.out.mono ?_
          rintro e w9 ⟨rfl, hB9⟩
          have HB9 := hid hB9
          clear hB9
          go_wp2_with fail
          go_ret
          exact ⟨k, rfl, ⟨fun _ => hyes.out HQ.out, fun _ => by omega⟩, HB9.out⟩
      | false =>
        have HQ := hid hq
        rw [hq] at HC
        clear hq
        as_aux_lemma =>
          go_wp2_with fail
          refine HC.out.mono ?_
          rintro e w9 ⟨rfl, hB9⟩
          have HB9 := hid hB9
          clear hB9
          go_wp2_with fail
          go_roundw
          case rel => exact ⟨k + 1, by omega, by go_num, HB9.out, hno.out HQ.out⟩
          case measure => simp [intOf]; omega
    · obtain rfl : k = l.length := by omega
      have hall := hid (show l.any f = false by rw [← ht, List.take_length])
      clear hB ht
      go_wp2_with fail
      go_ret
      exact ⟨-1, rfl, by rw [hall.out]; simp, HB.out⟩
theorem cti_any (gf : Nat) (lb : Array Value) (eg : ∀ args w, (callFunc gf args).run Tryd.prog w = .ok (.enter gf args) w) (A : Option Addr) (c : Nat) (l : List Int) (f : Int → Bool) (w : World) (hl : l.length ≤ maxLen) (h : SlR w w.heap.size A l)
    (hp : ∀ (x : Int) (W : World), x ∈ l → Below w.heap.size w W → Calls Tryd.prog gf (#[.int .i64 x] ++ lb) W fun e w' => e = .returned (.bool (f x)) ∧ Below w.heap.size w w') :
    Calls Tryd.prog 45 #[.slice A l.length c, .func (.func gf) #[] lb] w fun e w' => e = .returned (.bool (l.any f)) ∧ Below w.heap.size w w' := by
  have HI := hid (ixi_any gf lb eg A c l f w hl h hp)
  clear hp h
  unfold maxLen at hl
  go_enter Tryd.func45, Tryd.ntmps45
  go_wp2_with fail
  refine HI.out.mono ?_
  rintro e w2 ⟨r, rfl, hr, hB⟩
  have HR := hid hr
  have HB := hid hB
  clear hr hB
  go_wp2_with fail
  go_ret
  refine ⟨ret_bool ?_, HB.out⟩
  have := HR.out
  cases hx : l.any f with
  | true => rw [hx] at this; simpa using this
  | false => rw [hx] at this; simp at this ⊢; omega
set_option maxRecDepth 100000 in
set_option maxHeartbeats 1000000 in
theorem ixt_any (gf : Nat) (lb : Array Value) (eg : ∀ args w, (callFunc gf args).run Tryd.prog w = .ok (.enter gf args) w) (A : Option Addr) (c : Nat) (l : List Tr) (f : Tr → Bool) (w : World) (hl : l.length ≤ maxLen) (h : SlR w w.heap.size A l)
    (hp : ∀ (x : Tr) (W : World) (A1 A2 : Option Addr) (c1 c2 : Nat), x ∈ l → Below w.heap.size w W → SlR W W.heap.size A1 x.1 → SlR W W.heap.size A2 x.2 → x.1.length ≤ maxLen → x.2.length ≤ maxLen → Calls Tryd.prog gf (#[.agg #[.slice A1 x.1.length c1, .slice A2 x.2.length c2]] ++ lb) W fun e w' => e = .returned (.bool (f x)) ∧ Below w.heap.size w w') :
    Calls Tryd.prog 55 #[.slice A l.length c, .func (.func gf) #[] lb] w fun e w' => ∃ r : Int, e = .returned (.int .i64 r) ∧ (0 ≤ r ↔ l.any f = true) ∧ Below w.heap.size w w' := by
  unfold maxLen at hl
  have HP := hid hp
  clear hp
  go_enter Tryd.func55, Tryd.ntmps55
  go_wp2_with fail
  go_loopw [8] (fun i wr => ∃ k : Nat, k ≤ l.length ∧ i = .int .i64 k ∧ Below w.heap.size w wr ∧ (l.take k).any f = false) (fun i _ => l.length - (intOf i).toNat)
  case atStart => exact ⟨0, by omega, rfl, Below.refl _ _, by simp⟩
  case round =>
    obtain ⟨k, hk, rfl, hB, ht⟩ := hrel
    have HB := hid hB
    have HT := hid ht
    by_cases hlt : k < l.length
    · have hlt' : (k : Int) < l.length := by omega
      obtain ⟨b, off, A1, c1, A2, c2, rfl, hb, g0, g1, hs1, hs2, hl1, hl2⟩ := h.tr hlt
      replace g0 := (bcell hB b _ hb).trans g0
      replace g1 := (bcell hB b _ hb).trans g1
      have hz : b < wr.heap.size := by have := hB.size; omega
      have HC := hid (HP.out l[k] wr A1 A2 c1 c2 (List.getElem_mem hlt) hB ((hs1.below hB).more hB.size) ((hs2.below hB).more hB.size) hl1 hl2)
      have hyes := hid (fun (hq : f l[k] = true) => show l.any f = true from List.any_eq_true.2 ⟨l[k], List.getElem_mem hlt, hq⟩)
      have hno := hid (fun (hq : f l[k] = false) => show (l.take (k + 1)).any f = false from by rw [List.take_add_one, List.getElem?_eq_getElem hlt, List.any_append, ht]; simp [hq])
      clear hB ht hs1 hs2 hl1 hl2
      generalize l[k] = x at *
      obtain ⟨x1, x2⟩ := x
      simp only at g0 g1 HC
      cases hq : f (x1, x2) with
      | true =>
        have HQ := hid hq
        rw [hq] at HC
        clear hq
        as_aux_lemma =>
          go_wp2_with fail
          refine HC.out.mono ?_
          rintro e w9 ⟨rfl, hB9⟩
          have HB9 := hid hB9
          clear hB9
          go_wp2_with fail
          go_ret
          exact ⟨k, rfl, ⟨fun _ => hyes.out HQ.out, fun _ => by omega⟩, HB9.out⟩
      | false =>
        have HQ := hid hq
        rw [hq] at HC
        clear hq
        as_aux_lemma =>
          go_wp2_with fail
          refine HC.out.mono ?_
          rintro e w9 ⟨rfl, hB9⟩
          have HB9 := hid hB9
          clear hB9
          go_wp2_with fail
          go_roundw
          case rel => exact ⟨k + 1, by omega, by go_num, HB9.out, hno.out HQ.out⟩
          case measure => simp [intOf]; omega
    · obtain rfl : k = l.length := by omega
      have hall := hid (show l.any f = false by rw [← ht, List.take_length])
      clear hB ht
      go_wp2_with fail
      go_ret
      exact ⟨-1, rfl, by rw [hall.out]; simp, HB.out⟩
theorem ctt_any (gf : Nat) (lb : Array Value) (eg : ∀ args w, (callFunc gf args).run Tryd.prog w = .ok (.enter gf args) w) (A : Option Addr) (c : Nat) (l : List Tr) (f : Tr → Bool) (w : World) (hl : l.length ≤ maxLen) (h : SlR w w.heap.size A l)
    (hp : ∀ (x : Tr) (W : World) (A1 A2 : Option Addr) (c1 c2 : Nat), x ∈ l → Below w.heap.size w W → SlR W W.heap.size A1 x.1 → SlR W W.heap.size A2 x.2 → x.1.length ≤ maxLen → x.2.length ≤ maxLen → Calls Tryd.prog gf (#[.agg #[.slice A1 x.1.length c1, .slice A2 x.2.length c2]] ++ lb) W fun e w' => e = .returned (.bool (f x)) ∧ Below w.heap.size w w') :
    Calls Tryd.prog 42 #[.slice A l.length c, .func (.func gf) #[] lb] w fun e w' => e = .returned (.bool (l.any f)) ∧ Below w.heap.size w w' := by
  have HI := hid (ixt_any gf lb eg A c l f w hl h hp)
  clear hp h
  unfold maxLen at hl
  go_enter Tryd.func42, Tryd.ntmps42
  go_wp2_with fail
  refine HI.out.mono ?_
  rintro e w2 ⟨r, rfl, hr, hB⟩
  have HR := hid hr
  have HB := hid hB
  clear hr hB
  go_wp2_with fail
  go_ret
  refine ⟨ret_bool ?_, HB.out⟩
  have := HR.out
  cases hx : l.any f with
  | true => rw [hx] at this; simpa using this
  | false => rw [hx] at this; simp at this ⊢; omega
end Go.Proofs.YtbbogflibekgfaaDoor
