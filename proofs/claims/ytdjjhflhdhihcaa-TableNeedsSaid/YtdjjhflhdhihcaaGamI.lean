
/- Game: slices.IndexFunc and ContainsFunc with a closure; the closures of good and Answer. -/
import Derived.Test.YtdjjhflhdhihcaaGamH
set_option linter.unusedSimpArgs false
set_option linter.unusedVariables false
namespace Go.Proofs.Ytdjjhflhdhihcaa
open Go.RowKit Go.IntWalk

/-- What IndexFunc returns. -/
def IxR (f : Nat → Bool) (n : Nat) (r : Int) : Prop := (∃ k, k < n ∧ r = k ∧ f k = true ∧ ∀ j, j < k → f j = false) ∨ (r = -1 ∧ ∀ j, j < n → f j = false)
theorem IxR.uniq {f : Nat → Bool} {n : Nat} {r s : Int} (h : IxR f n r) (h' : IxR f n s) : r = s := by
  rcases h with ⟨k, hk, rfl, h1, h2⟩ | ⟨rfl, h1⟩ <;> rcases h' with ⟨k', hk', rfl, h1', h2'⟩ | ⟨rfl, h1'⟩
  · rcases Nat.lt_trichotomy k k' with hx | hx | hx
    · have := h2' k hx; rw [h1] at this; cases this
    · rw [hx]
    · have := h2 k' hx; rw [h1'] at this; cases this
  · have := h1' k hk; rw [h1] at this; cases this
  · have := h1 k' hk'; rw [h1'] at this; cases this
  · rfl
theorem IxR.step {f : Nat → Bool} {k : Nat} (h : ∀ j, j < k → f j = false) (hk : f k = false) : ∀ j, j < k + 1 → f j = false := fun j hj => by
  by_cases e : j = k
  · subst e; exact hk
  · exact h j (by omega)
set_option maxRecDepth 100000 in
set_option maxHeartbeats 1000000 in
theorem ixm_any (gf : Nat) (lb : Array Value) (eg : ∀ args w, (callFunc gf args).run Try.prog w = .ok (.enter gf args) w) (A : Option Addr) (c : Nat) (l : List Mv) (f : Nat → Bool) (w : World) (hl : l.length ≤ maxLen) (h : SlR w w.heap.size A l)
    (hp : ∀ (k : Nat) (hk : k < l.length) (W : World) (A' : Option Addr) (c' : Nat), Below w.heap.size w W → SlR W W.heap.size A' l[k].2 → l[k].2.length ≤ maxLen →
      Calls Try.prog gf (#[.agg #[.int .i64 l[k].1, .slice A' l[k].2.length c']] ++ lb) W fun e w' => e = .returned (.bool (f k)) ∧ Below w.heap.size w w') :
    Calls Try.prog 33 #[.slice A l.length c, .func (.func gf) #[] lb] w fun e w' => ∃ r : Int, e = .returned (.int .i64 r) ∧ IxR f l.length r ∧ Below w.heap.size w w' := by
  unfold maxLen at hl
  have HP := hid hp
  clear hp
  go_enter Try.func33, Try.ntmps33
  go_wp2_with fail
  go_loopw [8] (fun i wr => ∃ k : Nat, k ≤ l.length ∧ i = .int .i64 k ∧ Below w.heap.size w wr ∧ ∀ j, j < k → f j = false) (fun i _ => l.length - (intOf i).toNat)
  case atStart => exact ⟨0, by omega, rfl, Below.refl _ _, fun j h => by omega⟩
  case round =>
    obtain ⟨k, hk, rfl, hB, ht⟩ := hrel
    have HB := hid hB
    have HT := hid ht
    by_cases hlt : k < l.length
    · have hlt' : (k : Int) < l.length := by omega
      obtain ⟨b, off, A', c', rfl, hb, g0, g1, g3, g4, hs, _⟩ := h.mv hlt
      replace g0 := (bcell hB b _ hb).trans g0
      replace g1 := (bcell hB b _ hb).trans g1
      have hz : b < wr.heap.size := by have := hB.size; omega
      have HC := hid (HP.out k hlt wr A' c' hB ((hs.below hB).more hB.size) (Nat.le_trans g3 g4))
      clear hB ht hs g3 g4
      generalize l[k] = m at *
      obtain ⟨act, tos⟩ := m
      simp only at g0 g1 HC
      cases hq : f k with
      | true =>
        have HQ := hid hq
        rw [hq] at HC
        clear hq
        as_aux_lemma =>
          go_wp2_with fail
          refine HC.out.mono ?_
          rintro e w9 ⟨rfl, hB9⟩
          have HB9 := hid hB9
          clear hB9
          go_wp2_with fail
          go_ret
          exact ⟨k, rfl, .inl ⟨k, hlt, rfl, HQ.out, HT.out⟩, HB9.out⟩
      | false =>
        have HQ := hid hq
        rw [hq] at HC
        clear hq
        as_aux_lemma =>
          go_wp2_with fail
          refine HC.out.mono ?_
          rintro e w9 ⟨rfl, hB9⟩
          have HB9 := hid hB9
          clear hB9
          go_wp2_with fail
          go_roundw
          case rel => exact ⟨k + 1, by omega, by go_num, HB9.out, IxR.step HT.out HQ.out⟩
          case measure => simp [intOf]; omega
    · obtain rfl : k = l.length := by omega
      clear hB ht
      go_wp2_with fail
      go_ret
      exact ⟨-1, rfl, .inr ⟨rfl, HT.out⟩, HB.out⟩
set_option maxRecDepth 100000 in
set_option maxHeartbeats 1000000 in
theorem ixi_any (gf : Nat) (lb : Array Value) (eg : ∀ args w, (callFunc gf args).run Try.prog w = .ok (.enter gf args) w) (A : Option Addr) (c : Nat) (l : List Int) (f : Int → Bool) (w : World) (hl : l.length ≤ maxLen) (h : SlR w w.heap.size A l)
    (hp : ∀ (x : Int) (W : World), x ∈ l → Below w.heap.size w W → Calls Try.prog gf (#[.int .i64 x] ++ lb) W fun e w' => e = .returned (.bool (f x)) ∧ Below w.heap.size w w') :
    Calls Try.prog 44 #[.slice A l.length c, .func (.func gf) #[] lb] w fun e w' => ∃ r : Int, e = .returned (.int .i64 r) ∧ (0 ≤ r ↔ l.any f = true) ∧ Below w.heap.size w w' := by
  unfold maxLen at hl
  have HP := hid hp
  clear hp
  go_enter Try.func44, Try.ntmps44
  go_wp2_with fail
  go_loopw [8] (fun i wr => ∃ k : Nat, k ≤ l.length ∧ i = .int .i64 k ∧ Below w.heap.size w wr ∧ (l.take k).any f = false) (fun i _ => l.length - (intOf i).toNat)
  case atStart => exact ⟨0, by omega, rfl, Below.refl _ _, by simp⟩
  case round =>
    obtain ⟨k, hk, rfl, hB, ht⟩ := hrel
    have HB := hid hB
    have HT := hid ht
    by_cases hlt : k < l.length
    · have hlt' : (k : Int) < l.length := by omega
      obtain ⟨b, off, rfl, hb, g0, _⟩ := h.int hlt
      replace g0 := (bcell hB b _ hb).trans g0
      have hz : b < wr.heap.size := by have := hB.size; omega
      have HC := hid (HP.out l[k] wr (List.getElem_mem hlt) hB)
      have hyes := hid (fun (hq : f l[k] = true) => show l.any f = true from List.any_eq_true.2 ⟨l[k], List.getElem_mem hlt, hq⟩)
      have hno := hid (fun (hq : f l[k] = false) => show (l.take (k + 1)).any f = false from by rw [List.take_add_one, List.getElem?_eq_getElem hlt, List.any_append, ht]; simp [hq])
      clear hB ht
      generalize l[k] = x at *
      cases hq : f x with
      | true =>
        have HQ := hid hq
        rw [hq] at HC
        clear hq
        as_aux_lemma =>
          go_wp2_with fail
          refine HC.out.mono ?_
          rintro e w9 ⟨rfl, hB9⟩
          have HB9 := hid hB9
          clear hB9
          go_wp2_with fail
          go_ret
          exact ⟨k, rfl, ⟨fun _ => hyes.out HQ.out, fun _ => by omega⟩, HB9.out⟩
      | false =>
        have HQ := hid hq
        rw [hq] at HC
        clear hq
        as_aux_lemma =>
          go_wp2_with fail
          refine HC.out.mono ?_
          rintro e w9 ⟨rfl, hB9⟩
          have HB9 := hid hB9
          clear hB9
          go_wp2_with fail
          go_roundw
          case rel => exact ⟨k + 1, by omega, by go_num, HB9.out, hno.out HQ.out⟩
          case measure => simp [intOf]; omega
    · obtain rfl : k = l.length := by omega
      have hall := hid (show l.any f = false by rw [← ht, List.take_length])
      clear hB ht
      go_wp2_with fail
      go_ret
      exact ⟨-1, rfl, by rw [hall.out]; simp, HB.out⟩
theorem cti_any (gf : Nat) (lb : Array Value) (eg : ∀ args w, (callFunc gf args).run Try.prog w = .ok (.enter gf args) w) (A : Option Addr) (c : Nat) (l : List Int) (f : Int → Bool) (w : World) (hl : l.length ≤ maxLen) (h : SlR w w.heap.size A l)
    (hp : ∀ (x : Int) (W : World), x ∈ l → Below w.heap.size w W → Calls Try.prog gf (#[.int .i64 x] ++ lb) W fun e w' => e = .returned (.bool (f x)) ∧ Below w.heap.size w w') :
    Calls Try.prog 35 #[.slice A l.length c, .func (.func gf) #[] lb] w fun e w' => e = .returned (.bool (l.any f)) ∧ Below w.heap.size w w' := by
  have HI := hid (ixi_any gf lb eg A c l f w hl h hp)
  clear hp h
  unfold maxLen at hl
  go_enter Try.func35, Try.ntmps35
  go_wp2_with fail
  refine HI.out.mono ?_
  rintro e w2 ⟨r, rfl, hr, hB⟩
  have HR := hid hr
  have HB := hid hB
  clear hr hB
  go_wp2_with fail
  go_ret
  refine ⟨ret_bool ?_, HB.out⟩
  have := HR.out
  cases hx : l.any f with
  | true => rw [hx] at this; simpa using this
  | false => rw [hx] at this; simp at this ⊢; omega
end Go.Proofs.Ytdjjhflhdhihcaa
