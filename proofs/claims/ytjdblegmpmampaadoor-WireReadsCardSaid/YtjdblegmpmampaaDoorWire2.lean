/- Wire: WireReads, the walk. -/
import Derived.Test.YtjdblegmpmampaaDoorWire5
set_option linter.unusedSimpArgs false
set_option linter.unusedVariables false
namespace Go.Proofs.YtjdblegmpmampaaDoor
open Go.RowKit Go.IntWalk

/-- Both readers stand at the same place. -/
structure Both (w0 : World) (b1 b2 : Nat) (l : List UInt8) (bad : Bool) (w : World) : Prop where
  below : Below w0.heap.size w0 w
  r : Rd w b1 l bad
  q : Rr w b2 l bad
  e : bad = true → l = []
  n : l.length ≤ 400
  h1 : w0.heap.size ≤ b1
  h2 : w0.heap.size ≤ b2
  ne : b1 ≠ b2
theorem Both.step {w0 w w' : World} {b1 b2 : Nat} {l : List UInt8} {bad : Bool} (h : Both w0 b1 b2 l bad w) (hb : Below w.heap.size w w') : Both w0 b1 b2 l bad w' :=
  ⟨h.below.trans (hb.mono h.below.size), Blk.below h.r hb h.r.lt, Blk.below h.q hb h.q.lt, h.e, h.n, h.h1, h.h2, h.ne⟩
theorem Both.both {w0 w w1 w2 : World} {b1 b2 : Nat} {l l' : List UInt8} {bad bad' : Bool} (h : Both w0 b1 b2 l bad w) (hg1 : w.grownBy w1 (some b1)) (hr : Rd w1 b1 l' bad') (hg2 : w1.grownBy w2 (some b2)) (hq : Rr w2 b2 l' bad') (he : bad' = true → l' = []) (hn : l'.length ≤ 400) : Both w0 b1 b2 l' bad' w2 :=
  ⟨bg (bg h.below hg1 h.h1) hg2 h.h2, Blk.grown hr hg2 (fun e => h.ne (by injection e)), hq, he, hn, h.h1, h.h2, h.ne⟩
theorem Both.mid {w0 w w1 : World} {b1 b2 : Nat} {l : List UInt8} {bad : Bool} (h : Both w0 b1 b2 l bad w) (hg1 : w.grownBy w1 (some b1)) : Rr w1 b2 l bad := Blk.grown h.q hg1 (fun e => h.ne (by injection e with e; exact e.symm))

set_option maxRecDepth 20000 in
set_option maxHeartbeats 8000000 in
theorem reads_any (s : ByteArray) (A : Option Addr) (c : Nat) (l : List Int) (w : World) (hs : s.size ≤ maxLen) (hl : l.length ≤ maxLen) (hsl : SlR w w.heap.size A l) (he : Env w) :
    Calls Tryd.prog 7 #[.string s, .slice A l.length c] w fun e w' => e = .returned (.bool true) ∧ Below w.heap.size w w' := by
  unfold maxLen at hl
  by_cases h4 : (400 : Int) < s.size
  · go_enter Tryd.func7, Tryd.ntmps7
    go_wp2_with fail
    refine (small_any _ he).mono ?_
    rintro e w0 ⟨rfl, hB1⟩
    go_wp2_with fail
    go_ret
    exact ⟨rfl, hB1⟩
  · by_cases h20 : (20 : Int) < l.length
    · go_enter Tryd.func7, Tryd.ntmps7
      go_wp2_with fail
      refine (small_any _ he).mono ?_
      rintro e w0 ⟨rfl, hB1⟩
      go_wp2_with fail
      go_ret
      exact ⟨rfl, hB1⟩
    · go_enter Tryd.func7, Tryd.ntmps7
      go_wp2_with fail
      refine (small_any _ he).mono ?_
      rintro e w0 ⟨rfl, hB1⟩
      have hz0 := hB1.size
      go_wp2_with fail
      refine (open_any s w0).mono ?_
      rintro e w1 ⟨rfl, hR1, hB⟩
      have hB2 := hB1.trans (hB.mono hB1.size)
      have hz1 := hR1.lt
      clear hB hB1
      go_wp2_with fail
      refine (openR_any s w1).mono ?_
      rintro e w2 ⟨rfl, hQ, hB⟩
      have hA0 : Hid (Both w w0.heap.size w1.heap.size s.data.toList false w2) := hid ⟨hB2.trans (hB.mono hB2.size), Blk.below hR1 hB hR1.lt, hQ, (fun h => by cases h), by rw [← size_list]; omega, hz0, by omega, by omega⟩
      generalize w0.heap.size = b1 at *
      generalize w1.heap.size = b2 at *
      clear hB hB2 hR1 hQ hz0 hz1
      go_wp2_with fail
      go_loopw [8] (fun i wr => ∃ (k : Nat) (lc : List UInt8) (bad : Bool), k ≤ l.length ∧ i = .int .i64 k ∧ Both w b1 b2 lc bad wr) (fun i _ => l.length - (intOf i).toNat)
      case atStart => exact ⟨0, _, _, by omega, rfl, hA0.out⟩
      case round =>
        clear hA0
        obtain ⟨k, lc, bad, hk, rfl, hA⟩ := hrel
        replace hA := hid hA
        by_cases hlt : k < l.length
        · obtain ⟨b, off, rfl, _, g1, hi⟩ := (hsl.below hA.out.below).int hlt
          have hlt' : (k : Int) < l.length := by omega
          generalize l[k] = n at *
          go_wp2_with fail
          refine (kind_any n 0 ⟨#[]⟩ none 0 0 none 0 0 _ hi).mono ?_
          clear g1
          have hcase : kd n = 0 ∨ kd n = 1 ∨ kd n = 2 ∨ kd n = 3 ∨ kd n = 4 := by have := kd_bd n; omega
          rcases hcase with hk | hk | hk | hk | hk
          · have hk2 := hid hk
            clear hk
            rw [hk2.out]
            rintro e w2 ⟨rfl, hx⟩
            have hD := hid (hA.out.step hx)
            clear hx hA
            have hW := hid (num_any b1 lc bad _ hD.out.r (by have := hD.out.n; omega) (he.below hD.out.below))
            have hQ : Hid (∀ x, Rr x b2 lc bad → Calls Tryd.prog 33 #[.pointer (some ⟨b2, 0, none⟩)] x (RrRes x b2 bad (numL lc 59 0))) := hid (fun x hx => numRr_any b2 lc bad x hx (by have := hD.out.n; omega))
            cases hr : numL lc 59 0 with
            | none =>
              rw [hr] at hW hQ
              clear hr
              go_wp2_with fail
              refine hW.out.mono ?_
              rintro e w3 ⟨rfl, hR3, hg3⟩
              have hq3 := hD.out.mid hg3
              go_wp2_with fail
              refine (hQ.out _ hq3).mono ?_
              rintro e w4 ⟨rfl, hR4, hg4⟩
              have hB4 := hid (hD.out.both hg3 hR3 hg4 hR4 (fun _ => rfl) (by simp))
              clear hR3 hR4 hg3 hg4 hD hW hQ hq3
              have hz4 := hB4.out.below.size
              go_wp2_with fail
              refine (left_any _ _ _ _ hB4.out.r).mono ?_
              rintro e w5 ⟨rfl, hx⟩
              have hB5 := hid (hB4.out.step hx)
              clear hx hB4
              go_wp2_with fail
              refine (leftR_any _ _ _ _ hB5.out.q).mono ?_
              rintro e w6 ⟨rfl, hx⟩
              have hB6 := hid (hB5.out.step hx)
              clear hx hB5
              go_wp2_with fail
              refine (done_any _ _ _ _ hB6.out.r).mono ?_
              obtain ⟨dd, hdd⟩ : ∃ dd, dd = (!true && ([] : List UInt8).isEmpty) := ⟨_, rfl⟩
              rw [← hdd]
              have Hdd := hid hdd
              clear hdd
              rintro e w7 ⟨rfl, hx⟩
              have hB7 := hid (hB6.out.step hx)
              clear hx hB6
              go_wp2_with fail
              refine (doneR_any _ _ _ _ hB7.out.q).mono ?_
              rw [← Hdd.out]
              rintro e w8 ⟨rfl, hx⟩
              have hB8 := hid (hB7.out.step hx)
              clear hx hB7
              have hdd2 : (dd != dd) = false := by simp
              go_wp2_with fail
              go_roundw
              case rel => exact ⟨k + 1, _, _, by omega, by go_num, hB8.out⟩
              case measure => simp [intOf]; omega
            | some vr =>
              obtain ⟨v, l'⟩ := vr
              have hle := (numL_shorter hr).1
              rw [hr] at hW hQ
              clear hr
              go_wp2_with fail
              refine hW.out.mono ?_
              rintro e w3 ⟨rfl, hR3, hg3⟩
              have hq3 := hD.out.mid hg3
              go_wp2_with fail
              refine (hQ.out _ hq3).mono ?_
              rintro e w4 ⟨rfl, hR4, hg4⟩
              have hB4 := hid (hD.out.both hg3 hR3 hg4 hR4 (fun hb => List.eq_nil_of_length_eq_zero (by have h1 := hD.out.e hb; subst h1; simpa using hle)) (by have := hD.out.n; omega))
              clear hR3 hR4 hg3 hg4 hD hW hQ hq3
              have hz4 := hB4.out.below.size
              go_wp2_with fail
              refine (left_any _ _ _ _ hB4.out.r).mono ?_
              rintro e w5 ⟨rfl, hx⟩
              have hB5 := hid (hB4.out.step hx)
              clear hx hB4
              go_wp2_with fail
              refine (leftR_any _ _ _ _ hB5.out.q).mono ?_
              rintro e w6 ⟨rfl, hx⟩
              have hB6 := hid (hB5.out.step hx)
              clear hx hB5
              go_wp2_with fail
              refine (done_any _ _ _ _ hB6.out.r).mono ?_
              obtain ⟨dd, hdd⟩ : ∃ dd, dd = (!bad && l'.isEmpty) := ⟨_, rfl⟩
              rw [← hdd]
              have Hdd := hid hdd
              clear hdd
              rintro e w7 ⟨rfl, hx⟩
              have hB7 := hid (hB6.out.step hx)
              clear hx hB6
              go_wp2_with fail
              refine (doneR_any _ _ _ _ hB7.out.q).mono ?_
              rw [← Hdd.out]
              rintro e w8 ⟨rfl, hx⟩
              have hB8 := hid (hB7.out.step hx)
              clear hx hB7
              have hdd2 : (dd != dd) = false := by simp
              go_wp2_with fail
              go_roundw
              case rel => exact ⟨k + 1, _, _, by omega, by go_num, hB8.out⟩
              case measure => simp [intOf]; omega
          · have hk2 := hid hk
            clear hk
            rw [hk2.out]
            rintro e w2 ⟨rfl, hx⟩
            have hD := hid (hA.out.step hx)
            clear hx hA
            have hW := hid (int_any b1 lc bad _ hD.out.r (by have := hD.out.n; omega) (he.below hD.out.below))
            have hQ : Hid (∀ x, Rr x b2 lc bad → Calls Tryd.prog 34 #[.pointer (some ⟨b2, 0, none⟩)] x (RrRes x b2 bad (numL lc 59 (-9223372036854775808)))) := hid (fun x hx => intRr_any b2 lc bad x hx (by have := hD.out.n; omega))
            cases hr : numL lc 59 (-9223372036854775808) with
            | none =>
              rw [hr] at hW hQ
              clear hr
              go_wp2_with fail
              refine hW.out.mono ?_
              rintro e w3 ⟨rfl, hR3, hg3⟩
              have hq3 := hD.out.mid hg3
              go_wp2_with fail
              refine (hQ.out _ hq3).mono ?_
              rintro e w4 ⟨rfl, hR4, hg4⟩
              have hB4 := hid (hD.out.both hg3 hR3 hg4 hR4 (fun _ => rfl) (by simp))
              clear hR3 hR4 hg3 hg4 hD hW hQ hq3
              have hz4 := hB4.out.below.size
              go_wp2_with fail
              refine (left_any _ _ _ _ hB4.out.r).mono ?_
              rintro e w5 ⟨rfl, hx⟩
              have hB5 := hid (hB4.out.step hx)
              clear hx hB4
              go_wp2_with fail
              refine (leftR_any _ _ _ _ hB5.out.q).mono ?_
              rintro e w6 ⟨rfl, hx⟩
              have hB6 := hid (hB5.out.step hx)
              clear hx hB5
              go_wp2_with fail
              refine (done_any _ _ _ _ hB6.out.r).mono ?_
              obtain ⟨dd, hdd⟩ : ∃ dd, dd = (!true && ([] : List UInt8).isEmpty) := ⟨_, rfl⟩
              rw [← hdd]
              have Hdd := hid hdd
              clear hdd
              rintro e w7 ⟨rfl, hx⟩
              have hB7 := hid (hB6.out.step hx)
              clear hx hB6
              go_wp2_with fail
              refine (doneR_any _ _ _ _ hB7.out.q).mono ?_
              rw [← Hdd.out]
              rintro e w8 ⟨rfl, hx⟩
              have hB8 := hid (hB7.out.step hx)
              clear hx hB7
              have hdd2 : (dd != dd) = false := by simp
              go_wp2_with fail
              go_roundw
              case rel => exact ⟨k + 1, _, _, by omega, by go_num, hB8.out⟩
              case measure => simp [intOf]; omega
            | some vr =>
              obtain ⟨v, l'⟩ := vr
              have hle := (numL_shorter hr).1
              rw [hr] at hW hQ
              clear hr
              go_wp2_with fail
              refine hW.out.mono ?_
              rintro e w3 ⟨rfl, hR3, hg3⟩
              have hq3 := hD.out.mid hg3
              go_wp2_with fail
              refine (hQ.out _ hq3).mono ?_
              rintro e w4 ⟨rfl, hR4, hg4⟩
              have hB4 := hid (hD.out.both hg3 hR3 hg4 hR4 (fun hb => List.eq_nil_of_length_eq_zero (by have h1 := hD.out.e hb; subst h1; simpa using hle)) (by have := hD.out.n; omega))
              clear hR3 hR4 hg3 hg4 hD hW hQ hq3
              have hz4 := hB4.out.below.size
              go_wp2_with fail
              refine (left_any _ _ _ _ hB4.out.r).mono ?_
              rintro e w5 ⟨rfl, hx⟩
              have hB5 := hid (hB4.out.step hx)
              clear hx hB4
              go_wp2_with fail
              refine (leftR_any _ _ _ _ hB5.out.q).mono ?_
              rintro e w6 ⟨rfl, hx⟩
              have hB6 := hid (hB5.out.step hx)
              clear hx hB5
              go_wp2_with fail
              refine (done_any _ _ _ _ hB6.out.r).mono ?_
              obtain ⟨dd, hdd⟩ : ∃ dd, dd = (!bad && l'.isEmpty) := ⟨_, rfl⟩
              rw [← hdd]
              have Hdd := hid hdd
              clear hdd
              rintro e w7 ⟨rfl, hx⟩
              have hB7 := hid (hB6.out.step hx)
              clear hx hB6
              go_wp2_with fail
              refine (doneR_any _ _ _ _ hB7.out.q).mono ?_
              rw [← Hdd.out]
              rintro e w8 ⟨rfl, hx⟩
              have hB8 := hid (hB7.out.step hx)
              clear hx hB7
              have hdd2 : (dd != dd) = false := by simp
              go_wp2_with fail
              go_roundw
              case rel => exact ⟨k + 1, _, _, by omega, by go_num, hB8.out⟩
              case measure => simp [intOf]; omega
          · have hk2 := hid hk
            clear hk
            rw [hk2.out]
            rintro e w2 ⟨rfl, hx⟩
            have hD := hid (hA.out.step hx)
            clear hx hA
            have hW := hid (text_any b1 lc bad _ hD.out.r hD.out.e (by have := hD.out.n; omega) (he.below hD.out.below))
            have hQ : Hid (∀ x, Rr x b2 lc bad → Calls Tryd.prog 35 #[.pointer (some ⟨b2, 0, none⟩)] x (TrRes x b2 (textL lc))) := hid (fun x hx => textRr_any b2 lc bad x hx hD.out.e (by have := hD.out.n; omega))
            cases hr : textL lc with
            | none =>
              rw [hr] at hW hQ
              clear hr
              go_wp2_with fail
              refine hW.out.mono ?_
              rintro e w3 ⟨rfl, hR3, hg3⟩
              have hq3 := hD.out.mid hg3
              go_wp2_with fail
              refine (hQ.out _ hq3).mono ?_
              rintro e w4 ⟨rfl, hR4, hg4⟩
              have hB4 := hid (hD.out.both hg3 hR3 hg4 hR4 (fun _ => rfl) (by simp))
              clear hR3 hR4 hg3 hg4 hD hW hQ hq3
              have hz4 := hB4.out.below.size
              go_wp2_with fail
              refine (left_any _ _ _ _ hB4.out.r).mono ?_
              rintro e w5 ⟨rfl, hx⟩
              have hB5 := hid (hB4.out.step hx)
              clear hx hB4
              go_wp2_with fail
              refine (leftR_any _ _ _ _ hB5.out.q).mono ?_
              rintro e w6 ⟨rfl, hx⟩
              have hB6 := hid (hB5.out.step hx)
              clear hx hB5
              go_wp2_with fail
              refine (done_any _ _ _ _ hB6.out.r).mono ?_
              obtain ⟨dd, hdd⟩ : ∃ dd, dd = (!true && ([] : List UInt8).isEmpty) := ⟨_, rfl⟩
              rw [← hdd]
              have Hdd := hid hdd
              clear hdd
              rintro e w7 ⟨rfl, hx⟩
              have hB7 := hid (hB6.out.step hx)
              clear hx hB6
              go_wp2_with fail
              refine (doneR_any _ _ _ _ hB7.out.q).mono ?_
              rw [← Hdd.out]
              rintro e w8 ⟨rfl, hx⟩
              have hB8 := hid (hB7.out.step hx)
              clear hx hB7
              have hdd2 : (dd != dd) = false := by simp
              go_wp2_with fail
              go_roundw
              case rel => exact ⟨k + 1, _, _, by omega, by go_num, hB8.out⟩
              case measure => simp [intOf]; omega
            | some vr =>
              obtain ⟨v, l'⟩ := vr
              have hle := Nat.le_of_lt (textL_less hr).1
              rw [hr] at hW hQ
              clear hr
              go_wp2_with fail
              refine hW.out.mono ?_
              rintro e w3 ⟨rfl, hR3, hg3⟩
              have hq3 := hD.out.mid hg3
              go_wp2_with fail
              refine (hQ.out _ hq3).mono ?_
              rintro e w4 ⟨rfl, hR4, hg4⟩
              have hB4 := hid (hD.out.both hg3 hR3 hg4 hR4 (fun h => by cases h) (by have := hD.out.n; omega))
              clear hR3 hR4 hg3 hg4 hD hW hQ hq3
              have hz4 := hB4.out.below.size
              go_wp2_with fail
              refine (left_any _ _ _ _ hB4.out.r).mono ?_
              rintro e w5 ⟨rfl, hx⟩
              have hB5 := hid (hB4.out.step hx)
              clear hx hB4
              go_wp2_with fail
              refine (leftR_any _ _ _ _ hB5.out.q).mono ?_
              rintro e w6 ⟨rfl, hx⟩
              have hB6 := hid (hB5.out.step hx)
              clear hx hB5
              go_wp2_with fail
              refine (done_any _ _ _ _ hB6.out.r).mono ?_
              obtain ⟨dd, hdd⟩ : ∃ dd, dd = (!false && l'.isEmpty) := ⟨_, rfl⟩
              rw [← hdd]
              have Hdd := hid hdd
              clear hdd
              rintro e w7 ⟨rfl, hx⟩
              have hB7 := hid (hB6.out.step hx)
              clear hx hB6
              go_wp2_with fail
              refine (doneR_any _ _ _ _ hB7.out.q).mono ?_
              rw [← Hdd.out]
              rintro e w8 ⟨rfl, hx⟩
              have hB8 := hid (hB7.out.step hx)
              clear hx hB7
              have hdd2 : (dd != dd) = false := by simp
              go_wp2_with fail
              go_roundw
              case rel => exact ⟨k + 1, _, _, by omega, by go_num, hB8.out⟩
              case measure => simp [intOf]; omega
          · have hk2 := hid hk
            clear hk
            rw [hk2.out]
            rintro e w2 ⟨rfl, hx⟩
            have hD := hid (hA.out.step hx)
            clear hx hA
            have hW := hid (numsR_any w he b1 hD.out.h1 lc bad _ hD.out.below hD.out.r hD.out.e (by have := hD.out.n; omega))
            have hQ : Hid (∀ x, Rr x b2 lc bad → Calls Tryd.prog 37 #[.pointer (some ⟨b2, 0, none⟩)] x (LrI x b2 (listL fI lc))) := hid (fun x hx => numsRr_any b2 lc bad x hx hD.out.e (by have := hD.out.n; omega))
            cases hr : listL fI lc with
            | none =>
              rw [hr] at hW hQ
              clear hr
              go_wp2_with fail
              refine hW.out.mono ?_
              rintro e w3 ⟨rfl, hR3, hg3⟩
              have hq3 := hD.out.mid hg3
              go_wp2_with fail
              refine (hQ.out _ hq3).mono ?_
              rintro e w4 ⟨rfl, hR4, hg4⟩
              have hB3 := hid (hD.out.both hg3 hR3 hg4 hR4 (fun _ => rfl) (by simp))
              clear hR3 hR4 hg3 hg4 hD hW hQ hq3
              go_wp2_with fail
              refine (sameNums_any none none 0 0 [] [] _ SlR.nil SlR.nil (by simp [maxLen]) (by simp [maxLen])).mono ?_
              rw [decide_eq_true rfl]
              rintro e w5 ⟨rfl, hx⟩
              have hB4 := hid (hB3.out.step hx)
              clear hx hB3
              have hz4 := hB4.out.below.size
              go_wp2_with fail
              refine (left_any _ _ _ _ hB4.out.r).mono ?_
              rintro e w5 ⟨rfl, hx⟩
              have hB5 := hid (hB4.out.step hx)
              clear hx hB4
              go_wp2_with fail
              refine (leftR_any _ _ _ _ hB5.out.q).mono ?_
              rintro e w6 ⟨rfl, hx⟩
              have hB6 := hid (hB5.out.step hx)
              clear hx hB5
              go_wp2_with fail
              refine (done_any _ _ _ _ hB6.out.r).mono ?_
              obtain ⟨dd, hdd⟩ : ∃ dd, dd = (!true && ([] : List UInt8).isEmpty) := ⟨_, rfl⟩
              rw [← hdd]
              have Hdd := hid hdd
              clear hdd
              rintro e w7 ⟨rfl, hx⟩
              have hB7 := hid (hB6.out.step hx)
              clear hx hB6
              go_wp2_with fail
              refine (doneR_any _ _ _ _ hB7.out.q).mono ?_
              rw [← Hdd.out]
              rintro e w8 ⟨rfl, hx⟩
              have hB8 := hid (hB7.out.step hx)
              clear hx hB7
              have hdd2 : (dd != dd) = false := by simp
              go_wp2_with fail
              go_roundw
              case rel => exact ⟨k + 1, _, _, by omega, by go_num, hB8.out⟩
              case measure => simp [intOf]; omega
            | some vr =>
              obtain ⟨xs, l'⟩ := vr
              have hle := (listI_bd hr).2
              have hbd := (listI_bd hr).1
              have hxl := listI_len hr
              have hcn := hD.out.n
              rw [hr] at hW hQ
              clear hr
              go_wp2_with fail
              refine hW.out.mono ?_
              rintro e w3 ⟨sv, rfl, hown, hR3, hg3⟩
              have hq3 := hD.out.mid hg3
              obtain ⟨A1, c1, rfl, _, _, hs1⟩ := hown.slr hbd
              go_wp2_with fail
              refine (hQ.out _ hq3).mono ?_
              rintro e w4 ⟨sv2, rfl, hown2, hR4, hg4⟩
              obtain ⟨A2, c2, rfl, _, _, hs2⟩ := hown2.slr hbd
              have hown3 := hown.keptb hg4 hD.out.q.lt
              obtain ⟨A3, c3, hv3, _, _, hs3⟩ := hown3.slr hbd
              simp only [Value.slice.injEq] at hv3
              obtain ⟨rfl, _, rfl⟩ := hv3
              have hB3 := hid (hD.out.both hg3 hR3 hg4 hR4 (fun h => by cases h) (by omega))
              clear hR3 hR4 hg3 hg4 hD hW hQ hq3 hown hown2 hown3 hs1 hbd
              go_wp2_with fail
              refine (sameNums_any _ _ _ _ xs xs _ hs3 hs2 (by unfold maxLen; omega) (by unfold maxLen; omega)).mono ?_
              rw [decide_eq_true rfl]
              rintro e w5 ⟨rfl, hx⟩
              have hB4 := hid (hB3.out.step hx)
              clear hx hB3 hs2 hs3
              have hz4 := hB4.out.below.size
              go_wp2_with fail
              refine (left_any _ _ _ _ hB4.out.r).mono ?_
              rintro e w5 ⟨rfl, hx⟩
              have hB5 := hid (hB4.out.step hx)
              clear hx hB4
              go_wp2_with fail
              refine (leftR_any _ _ _ _ hB5.out.q).mono ?_
              rintro e w6 ⟨rfl, hx⟩
              have hB6 := hid (hB5.out.step hx)
              clear hx hB5
              go_wp2_with fail
              refine (done_any _ _ _ _ hB6.out.r).mono ?_
              obtain ⟨dd, hdd⟩ : ∃ dd, dd = (!false && l'.isEmpty) := ⟨_, rfl⟩
              rw [← hdd]
              have Hdd := hid hdd
              clear hdd
              rintro e w7 ⟨rfl, hx⟩
              have hB7 := hid (hB6.out.step hx)
              clear hx hB6
              go_wp2_with fail
              refine (doneR_any _ _ _ _ hB7.out.q).mono ?_
              rw [← Hdd.out]
              rintro e w8 ⟨rfl, hx⟩
              have hB8 := hid (hB7.out.step hx)
              clear hx hB7
              have hdd2 : (dd != dd) = false := by simp
              go_wp2_with fail
              go_roundw
              case rel => exact ⟨k + 1, _, _, by omega, by go_num, hB8.out⟩
              case measure => simp [intOf]; omega
          · have hk2 := hid hk
            clear hk
            rw [hk2.out]
            rintro e w2 ⟨rfl, hx⟩
            have hD := hid (hA.out.step hx)
            clear hx hA
            have hW := hid (textsR_any w he b1 hD.out.h1 lc bad _ hD.out.below hD.out.r hD.out.e (by have := hD.out.n; omega))
            have hQ : Hid (∀ x, Rr x b2 lc bad → Calls Tryd.prog 39 #[.pointer (some ⟨b2, 0, none⟩)] x (LrS x b2 (listL textL lc))) := hid (fun x hx => textsRr_any b2 lc bad x hx hD.out.e (by have := hD.out.n; omega))
            cases hr : listL textL lc with
            | none =>
              rw [hr] at hW hQ
              clear hr
              go_wp2_with fail
              refine hW.out.mono ?_
              rintro e w3 ⟨rfl, hR3, hg3⟩
              have hq3 := hD.out.mid hg3
              go_wp2_with fail
              refine (hQ.out _ hq3).mono ?_
              rintro e w4 ⟨rfl, hR4, hg4⟩
              have hB3 := hid (hD.out.both hg3 hR3 hg4 hR4 (fun _ => rfl) (by simp))
              clear hR3 hR4 hg3 hg4 hD hW hQ hq3
              go_wp2_with fail
              refine (sameTexts_any none none 0 0 [] [] _ SlR.nil SlR.nil (by simp [maxLen]) (by simp [maxLen])).mono ?_
              rw [decide_eq_true rfl]
              rintro e w5 ⟨rfl, hx⟩
              have hB4 := hid (hB3.out.step hx)
              clear hx hB3
              have hz4 := hB4.out.below.size
              go_wp2_with fail
              refine (left_any _ _ _ _ hB4.out.r).mono ?_
              rintro e w5 ⟨rfl, hx⟩
              have hB5 := hid (hB4.out.step hx)
              clear hx hB4
              go_wp2_with fail
              refine (leftR_any _ _ _ _ hB5.out.q).mono ?_
              rintro e w6 ⟨rfl, hx⟩
              have hB6 := hid (hB5.out.step hx)
              clear hx hB5
              go_wp2_with fail
              refine (done_any _ _ _ _ hB6.out.r).mono ?_
              obtain ⟨dd, hdd⟩ : ∃ dd, dd = (!true && ([] : List UInt8).isEmpty) := ⟨_, rfl⟩
              rw [← hdd]
              have Hdd := hid hdd
              clear hdd
              rintro e w7 ⟨rfl, hx⟩
              have hB7 := hid (hB6.out.step hx)
              clear hx hB6
              go_wp2_with fail
              refine (doneR_any _ _ _ _ hB7.out.q).mono ?_
              rw [← Hdd.out]
              rintro e w8 ⟨rfl, hx⟩
              have hB8 := hid (hB7.out.step hx)
              clear hx hB7
              have hdd2 : (dd != dd) = false := by simp
              go_wp2_with fail
              go_roundw
              case rel => exact ⟨k + 1, _, _, by omega, by go_num, hB8.out⟩
              case measure => simp [intOf]; omega
            | some vr =>
              obtain ⟨xs, l'⟩ := vr
              have hle := (listS_bd hr).2
              have hbd := (listS_bd hr).1
              have hxl := listS_len hr
              have hcn := hD.out.n
              rw [hr] at hW hQ
              clear hr
              go_wp2_with fail
              refine hW.out.mono ?_
              rintro e w3 ⟨sv, rfl, hown, hR3, hg3⟩
              have hq3 := hD.out.mid hg3
              obtain ⟨A1, c1, rfl, _, _, hs1⟩ := hown.slr (fun x hx => Nat.le_trans (hbd x hx) (Nat.le_trans hD.out.n (by decide)))
              go_wp2_with fail
              refine (hQ.out _ hq3).mono ?_
              rintro e w4 ⟨sv2, rfl, hown2, hR4, hg4⟩
              obtain ⟨A2, c2, rfl, _, _, hs2⟩ := hown2.slr (fun x hx => Nat.le_trans (hbd x hx) (Nat.le_trans hD.out.n (by decide)))
              have hown3 := hown.keptb hg4 hD.out.q.lt
              obtain ⟨A3, c3, hv3, _, _, hs3⟩ := hown3.slr (fun x hx => Nat.le_trans (hbd x hx) (Nat.le_trans hD.out.n (by decide)))
              simp only [Value.slice.injEq] at hv3
              obtain ⟨rfl, _, rfl⟩ := hv3
              have hB3 := hid (hD.out.both hg3 hR3 hg4 hR4 (fun h => by cases h) (by omega))
              clear hR3 hR4 hg3 hg4 hD hW hQ hq3 hown hown2 hown3 hs1 hbd
              go_wp2_with fail
              rw [show xs.length = (xs.map bs).length by rw [List.length_map]]
              refine (sameTexts_any _ _ _ _ (xs.map bs) (xs.map bs) _ hs3 hs2 (by rw [List.length_map]; unfold maxLen; omega) (by rw [List.length_map]; unfold maxLen; omega)).mono ?_
              rw [decide_eq_true rfl]
              rintro e w5 ⟨rfl, hx⟩
              have hB4 := hid (hB3.out.step hx)
              clear hx hB3 hs2 hs3
              have hz4 := hB4.out.below.size
              go_wp2_with fail
              refine (left_any _ _ _ _ hB4.out.r).mono ?_
              rintro e w5 ⟨rfl, hx⟩
              have hB5 := hid (hB4.out.step hx)
              clear hx hB4
              go_wp2_with fail
              refine (leftR_any _ _ _ _ hB5.out.q).mono ?_
              rintro e w6 ⟨rfl, hx⟩
              have hB6 := hid (hB5.out.step hx)
              clear hx hB5
              go_wp2_with fail
              refine (done_any _ _ _ _ hB6.out.r).mono ?_
              obtain ⟨dd, hdd⟩ : ∃ dd, dd = (!false && l'.isEmpty) := ⟨_, rfl⟩
              rw [← hdd]
              have Hdd := hid hdd
              clear hdd
              rintro e w7 ⟨rfl, hx⟩
              have hB7 := hid (hB6.out.step hx)
              clear hx hB6
              go_wp2_with fail
              refine (doneR_any _ _ _ _ hB7.out.q).mono ?_
              rw [← Hdd.out]
              rintro e w8 ⟨rfl, hx⟩
              have hB8 := hid (hB7.out.step hx)
              clear hx hB7
              have hdd2 : (dd != dd) = false := by simp
              go_wp2_with fail
              go_roundw
              case rel => exact ⟨k + 1, _, _, by omega, by go_num, hB8.out⟩
              case measure => simp [intOf]; omega
        · obtain rfl : k = l.length := by omega
          go_wp2_with fail
          refine (rest_any _ _ _ _ hA.out.r).mono ?_
          rintro e w3 ⟨rfl, hR3, hg3⟩
          have hq3 := hA.out.mid hg3
          go_wp2_with fail
          refine (tailR_any _ _ _ _ hq3).mono ?_
          rintro e w4 ⟨rfl, hR4, hg4⟩
          have hB4 := hid (hA.out.both hg3 hR3 hg4 hR4 (fun _ => rfl) (by simp))
          clear hR3 hR4 hg3 hg4 hq3 hA
          go_wp2_with fail
          refine (left_any _ _ _ _ hB4.out.r).mono ?_
          rintro e w5 ⟨rfl, hx⟩
          have hB5 := hid (hB4.out.step hx)
          clear hx hB4
          go_wp2_with fail
          refine (leftR_any _ _ _ _ hB5.out.q).mono ?_
          rintro e w6 ⟨rfl, hx⟩
          have hB6 := hid (hB5.out.step hx)
          clear hx hB5
          go_wp2_with fail
          refine (done_any _ _ _ _ hB6.out.r).mono ?_
          obtain ⟨dd, hdd⟩ : ∃ dd, dd = (!bad && ([] : List UInt8).isEmpty) := ⟨_, rfl⟩
          rw [← hdd]
          have Hdd := hid hdd
          clear hdd
          rintro e w7 ⟨rfl, hx⟩
          have hB7 := hid (hB6.out.step hx)
          clear hx hB6
          go_wp2_with fail
          refine (doneR_any _ _ _ _ hB7.out.q).mono ?_
          rw [← Hdd.out]
          rintro e w8 ⟨rfl, hx⟩
          have hB8 := hid (hB7.out.step hx)
          clear hx hB7
          go_wp2_with fail
          go_ret
          exact ⟨ret_bool (by simp), hB8.out.below⟩
end Go.Proofs.YtjdblegmpmampaaDoor
