
/- Petri: IndexFunc and ContainsFunc over words; the second closure of Siphons. -/
import Derived.Test.YtbbogflibekgfaaDoorPetSb
set_option linter.unusedSimpArgs false
set_option linter.unusedVariables false
namespace Go.Proofs.YtbbogflibekgfaaDoor
open Go.RowKit Go.IntWalk Go.Shelf

theorem SlR.wd {w : World} {B : Nat} {A : Option Addr} {l : List Nat} (h : SlR w B A l) {k : Nat} (hk : k < l.length) : ∃ b off, A = some ⟨b, off, none⟩ ∧ b < B ∧ w.cell? ⟨b, off + k, none⟩ = some (.int .u64 (l[k] : Nat)) := by
  obtain ⟨b, off, es, hA, hb, hs, hc, rfl, _⟩ := h k _ (List.getElem?_eq_getElem hk)
  have h4 : Rep.size Nat = 1 := rfl
  rw [h4] at hc
  exact ⟨b, off, hA, hb, by simpa using hc 0 _ rfl⟩
set_option maxRecDepth 100000 in
set_option maxHeartbeats 1000000 in
theorem ixu_any (gf : Nat) (lb : Array Value) (eg : ∀ args w, (callFunc gf args).run Tryd.prog w = .ok (.enter gf args) w) (A : Option Addr) (c : Nat) (l : List Nat) (f : Nat → Bool) (w : World) (hl : l.length ≤ maxLen) (h : SlR w w.heap.size A l)
    (hp : ∀ (x : Nat) (W : World), x ∈ l → Below w.heap.size w W → Calls Tryd.prog gf (#[.int .u64 (x : Nat)] ++ lb) W fun e w' => e = .returned (.bool (f x)) ∧ Below w.heap.size w w') :
    Calls Tryd.prog 52 #[.slice A l.length c, .func (.func gf) #[] lb] w fun e w' => ∃ r : Int, e = .returned (.int .i64 r) ∧ (0 ≤ r ↔ l.any f = true) ∧ Below w.heap.size w w' := by
  unfold maxLen at hl
  have HP := hid hp
  clear hp
  go_enter Tryd.func52, Tryd.ntmps52
  go_wp2_with fail
  go_loopw [8] (fun i wr => ∃ k : Nat, k ≤ l.length ∧ i = .int .i64 k ∧ Below w.heap.size w wr ∧ (l.take k).any f = false) (fun i _ => l.length - (intOf i).toNat)
  case atStart => exact ⟨0, by omega, rfl, Below.refl _ _, by simp⟩
  case round =>
    obtain ⟨k, hk, rfl, hB, ht⟩ := hrel
    have HB := hid hB
    have HT := hid ht
    by_cases hlt : k < l.length
    · have hlt' : (k : Int) < l.length := by omega
      obtain ⟨b, off, rfl, hb, g0⟩ := h.wd hlt
      replace g0 := (bcell hB b _ hb).trans g0
      have hz : b < wr.heap.size := by have := hB.size; omega
      have HC := hid (HP.out l[k] wr (List.getElem_mem hlt) hB)
      have hyes := hid (fun (hq : f l[k] = true) => show l.any f = true from List.any_eq_true.2 ⟨l[k], List.getElem_mem hlt, hq⟩)
      have hno := hid (fun (hq : f l[k] = false) => show (l.take (k + 1)).any f = false from by rw [List.take_add_one, List.getElem?_eq_getElem hlt, List.any_append, ht]; simp [hq])
      clear hB ht
      generalize l[k] = x at *
      cases hq : f x with
      | true =>
        have HQ := hid hq
        rw [hq] at HC
        clear hq
        as_aux_lemma =>
          go_wp2_with fail
          refine HC.out.mono ?_
          rintro e w9 ⟨rfl, hB9⟩
          have HB9 := hid hB9
          clear hB9
          go_wp2_with fail
          go_ret
          exact ⟨k, rfl, ⟨fun _ => hyes.out HQ.out, fun _ => by omega⟩, HB9.out⟩
      | false =>
        have HQ := hid hq
        rw [hq] at HC
        clear hq
        as_aux_lemma =>
          go_wp2_with fail
          refine HC.out.mono ?_
          rintro e w9 ⟨rfl, hB9⟩
          have HB9 := hid hB9
          clear hB9
          go_wp2_with fail
          go_roundw
          case rel => exact ⟨k + 1, by omega, by go_num, HB9.out, hno.out HQ.out⟩
          case measure => simp [intOf]; omega
    · obtain rfl : k = l.length := by omega
      have hall := hid (show l.any f = false by rw [← ht, List.take_length])
      clear hB ht
      go_wp2_with fail
      go_ret
      exact ⟨-1, rfl, by rw [hall.out]; simp, HB.out⟩
theorem ctu_any (gf : Nat) (lb : Array Value) (eg : ∀ args w, (callFunc gf args).run Tryd.prog w = .ok (.enter gf args) w) (A : Option Addr) (c : Nat) (l : List Nat) (f : Nat → Bool) (w : World) (hl : l.length ≤ maxLen) (h : SlR w w.heap.size A l)
    (hp : ∀ (x : Nat) (W : World), x ∈ l → Below w.heap.size w W → Calls Tryd.prog gf (#[.int .u64 (x : Nat)] ++ lb) W fun e w' => e = .returned (.bool (f x)) ∧ Below w.heap.size w w') :
    Calls Tryd.prog 35 #[.slice A l.length c, .func (.func gf) #[] lb] w fun e w' => e = .returned (.bool (l.any f)) ∧ Below w.heap.size w w' := by
  have HI := hid (ixu_any gf lb eg A c l f w hl h hp)
  clear hp h
  unfold maxLen at hl
  go_enter Tryd.func35, Tryd.ntmps35
  go_wp2_with fail
  refine HI.out.mono ?_
  rintro e w2 ⟨r, rfl, hr, hB⟩
  have HR := hid hr
  have HB := hid hB
  clear hr hB
  go_wp2_with fail
  go_ret
  refine ⟨ret_bool ?_, HB.out⟩
  have := HR.out
  cases hx : l.any f with
  | true => rw [hx] at this; simpa using this
  | false => rw [hx] at this; simp at this ⊢; omega

set_option maxRecDepth 100000 in
set_option maxHeartbeats 1000000 in
theorem insub_any (gw v : Nat) (f : Nat) (w : World) (hf : f < 2 ^ 64) (hv : v < 2 ^ 64) (xw : Blk w gw 52 #[.int .u64 (v : Nat)]) :
    Calls Tryd.prog 36 #[.int .u64 (f : Nat), .pointer (some ⟨gw, 0, none⟩)] w fun e w' => e = .returned (.bool (decide (clr f v = 0))) ∧ Below w.heap.size w w' := by
  have y1 := xw.cell 0; have z1 := xw.lt
  simp at y1
  clear xw
  go_enter Tryd.func36, Tryd.ntmps36
  go_wp2_with fail
  go_ret
  refine ⟨ret_bool ?_, Below.refl _ _⟩
  rw [u64_andNot_nat f v (by simpa using hf) (by simpa using hv), show (f &&& (18446744073709551615 - v)) = clr f v from rfl, Bool.eq_iff_iff]
  simp
end Go.Proofs.YtbbogflibekgfaaDoor
