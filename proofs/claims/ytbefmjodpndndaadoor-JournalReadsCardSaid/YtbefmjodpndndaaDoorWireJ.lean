
/- Wire: the reader's Int, close, Text. -/
import Derived.Test.YtbefmjodpndndaaDoorWireNum
set_option linter.unusedSimpArgs false
set_option linter.unusedVariables false
namespace Go.Proofs.YtbefmjodpndndaaDoor
open Go.RowKit Go.IntWalk

/-- One byte read. -/
def cutL (l : List UInt8) (c : UInt8) : Option (List UInt8) :=
  match l with
  | [] => none
  | x :: r => if x = c then some r else none
def ClRes (w : World) (b : Nat) (bad : Bool) (r : Option (List UInt8)) (e : Ending) (w' : World) : Prop :=
  e = .returned (.tuple #[]) ∧ w.grownBy w' (some b) ∧ match r with
    | some l => Rd w' b l bad
    | none => Rd w' b [] true
set_option maxRecDepth 100000 in
set_option maxHeartbeats 400000 in
theorem close_any (b : Nat) (l : List UInt8) (bad : Bool) (c : UInt8) (w : World) (h : Rd w b l bad) :
    Calls Tryd.prog 40 #[.pointer (some ⟨b, 0, none⟩), .string ⟨#[c]⟩] w (ClRes w b bad (cutL l c)) := by
  obtain ⟨c0, c1⟩ := blk2' h
  have f0 := h.frozen 0
  have hz := h.lt
  have hp : Lib.hasPrefix l [c] = (cutL l c).isSome := by
    cases l with
    | nil => simp [Lib.hasPrefix, cutL]
    | cons x r =>
      simp only [Lib.hasPrefix, cutL, List.isPrefixOf]
      by_cases hx : x = c
      · simp [hx]
      · have : (c == x) = false := by simp [Ne.symm hx]
        simp [hx, this]
  have Hp := hid hp
  clear hp
  cases hc : cutL l c with
  | none =>
    have Hc := hid hc
    rw [hc] at Hp
    clear hc
    go_enter Tryd.func40, Tryd.ntmps40
    go_wp2_with fail
    refine (Tryd.strings_CutPrefix _ _ _).mono ?_
    rw [show Lib.hasPrefix (bs l).data.toList (⟨#[c]⟩ : ByteArray).data.toList = false from by have := Hp.out; simpa [bs] using this]
    rintro e w1 ⟨rfl, rfl⟩
    generalize (⟨(Lib.trimPrefix (bs l).data.toList (⟨#[c]⟩ : ByteArray).data.toList).toArray⟩ : ByteArray) = S
    go_wp2_with fail
    refine (fail_any b S.data.toList bad _ ?_).mono ?_
    · have := Blk.set_ h 0 (.string S)
      unfold Rd
      rw [bs_of]
      simpa using this
    rintro e w2 ⟨rfl, h2, hg⟩
    go_wp2_with fail
    go_end0
    exact ⟨rfl, grown_trans (grown_set _ _ _ _) hg, h2⟩
  | some r =>
    have Hc := hid hc
    rw [hc] at Hp
    clear hc
    go_enter Tryd.func40, Tryd.ntmps40
    go_wp2_with fail
    refine (Tryd.strings_CutPrefix _ _ _).mono ?_
    rw [show Lib.hasPrefix (bs l).data.toList (⟨#[c]⟩ : ByteArray).data.toList = true from by have := Hp.out; simpa [bs] using this,
      show (⟨(Lib.trimPrefix (bs l).data.toList (⟨#[c]⟩ : ByteArray).data.toList).toArray⟩ : ByteArray) = bs r from by
        have h1 := Hp.out
        have h2 := Hc.out
        have e1 : (bs l).data.toList = l := by simp [bs]
        rw [e1]
        show bs (Lib.trimPrefix l [c]) = bs r
        simp only [Option.isSome_some] at h1
        rw [Lib.trimPrefix, if_pos h1]
        cases l with
        | nil => simp [cutL] at h2
        | cons x t =>
          by_cases hx : x = c
          · simp [cutL, hx] at h2
            simp [h2]
          · simp [cutL, hx] at h2]
    rintro e w1 ⟨rfl, rfl⟩
    go_wp2_with fail
    go_end0
    refine ⟨rfl, grown_set _ _ _ _, ?_⟩
    have := Blk.set_ h 0 (.string (bs r))
    unfold Rd
    simpa using this

def textL (l : List UInt8) : Option (List UInt8 × List UInt8) :=
  match numL l 58 0 with
  | none => none
  | some (n, l1) => if (l1.length : Int) < n then none else (cutL (l1.drop n.toNat) 44).map fun r => (l1.take n.toNat, r)
def TxRes (w : World) (b : Nat) (r : Option (List UInt8 × List UInt8)) (e : Ending) (w' : World) : Prop :=
  match r with
  | some (s, l) => e = .returned (.string (bs s)) ∧ Rd w' b l false ∧ w.grownBy w' (some b)
  | none => e = .returned (.string ⟨#[]⟩) ∧ Rd w' b [] true ∧ w.grownBy w' (some b)
theorem txRes_none {w w' : World} {b : Nat} {r : Option (List UInt8 × List UInt8)} {e : Ending} (hr : r = none) (he : e = .returned (.string ⟨#[]⟩)) (h1 : Rd w' b [] true) (h2 : w.grownBy w' (some b)) : TxRes w b r e w' := by
  subst hr; exact ⟨he, h1, h2⟩
theorem numL_shorter {l : List UInt8} {c : UInt8} {m v : Int} {r : List UInt8} (h : numL l c m = some (v, r)) : r.length ≤ l.length ∧ m ≤ v := by
  unfold numL at h
  split at h
  · cases h
  · split at h
    · split at h
      · rename_i hv
        injection h with h
        injection h with h1 h2
        subst h1 h2
        exact ⟨by simp, hv.2⟩
      · cases h
    · cases h
set_option maxRecDepth 100000 in
set_option maxHeartbeats 1000000 in
theorem text_any (b : Nat) (l : List UInt8) (bad : Bool) (w : World) (h : Rd w b l bad) (hbad : bad = true → l = []) (hl : l.length ≤ 1000000000000) (he : Env w) :
    Calls Tryd.prog 16 #[.pointer (some ⟨b, 0, none⟩)] w (TxRes w b (textL l)) := by
  have H := hid (number_any b l bad 58 0 w h hl he)
  cases hr : numL l 58 0 with
  | none =>
    rw [hr] at H
    have ht := hid (show textL l = none by rw [textL, hr])
    clear hr
    go_enter Tryd.func16, Tryd.ntmps16
    go_wp2_with fail
    refine H.out.mono ?_
    rintro e w1 ⟨rfl, h1, hg1⟩
    obtain ⟨c0, c1⟩ := blk2' h1
    have f0 := h1.frozen 0
    have hz := h1.lt
    have hb0 : (bs []).size = 0 := rfl
    go_wp2_with fail
    have h2 : Rd (w1.setCell ⟨b, 0, none⟩ (.string ByteArray.empty)) b [] true := by
      have := Blk.set_ h1 0 (.string ByteArray.empty)
      unfold Rd
      rw [show bs [] = ByteArray.empty from rfl]
      simpa using this
    refine (close_any b [] true 44 _ h2).mono ?_
    rintro e w2 ⟨rfl, hg2, h3⟩
    replace h3 : Rd w2 b [] true := h3
    obtain ⟨d0, d1⟩ := blk2' h3
    clear c0 c1 h2 f0
    go_wp2_with fail
    go_ret
    exact txRes_none ht.out rfl h3 (grown_trans hg1 (grown_trans (grown_set _ _ _ _) hg2))
  | some x =>
    obtain ⟨v, l1⟩ := x
    rw [hr] at H
    obtain ⟨hl1, hv⟩ := numL_shorter hr
    have hnb : bad = false := by
      cases bad with
      | false => rfl
      | true => rw [hbad rfl] at hr; simp [numL, Lib.indexByte] at hr
    subst hnb
    obtain ⟨n, rfl⟩ : ∃ n : Nat, v = n := ⟨v.toNat, by omega⟩
    have hsz : ((bs l1).size : Int) = l1.length := by rw [bs_size]
    have hsz2 : (bs l1).size ≤ 1000000000000 := by rw [bs_size]; omega
    by_cases hn : n ≤ (bs l1).size
    · have hn' : n ≤ l1.length := by rw [bs_size] at hn; exact hn
      have ht := hid (show textL l = (cutL (l1.drop n) 44).map fun r => (l1.take n, r) by rw [textL, hr]; simp; omega)
      clear hr hv hsz hl1
      go_enter Tryd.func16, Tryd.ntmps16
      go_wp2_with fail
      refine H.out.mono ?_
      rintro e w1 ⟨rfl, h1, hg1⟩
      obtain ⟨c0, c1⟩ := blk2' h1
      have f0 := h1.frozen 0
      have hz := h1.lt
      go_wp2_with fail
      have h2 : Rd (w1.setCell ⟨b, 0, none⟩ (.string ((bs l1).extract n (bs l1).size))) b (l1.drop n) false := by
        have := Blk.set_ h1 0 (.string ((bs l1).extract n (bs l1).size))
        unfold Rd
        rw [show bs (l1.drop n) = (bs l1).extract n (bs l1).size by rw [bs_extract, bs_size, List.take_length]]
        simpa using this
      refine (close_any b (l1.drop n) false 44 _ h2).mono ?_
      cases hc : cutL (l1.drop n) 44 with
      | none =>
        rw [hc] at ht
        clear hc
        rintro e w2 ⟨rfl, hg2, h3⟩
        replace h3 : Rd w2 b [] true := h3
        obtain ⟨d0, d1⟩ := blk2' h3
        clear c0 c1 h2 f0
        go_wp2_with fail
        go_ret
        exact txRes_none ht.out rfl h3 (grown_trans hg1 (grown_trans (grown_set _ _ _ _) hg2))
      | some r =>
        rw [hc] at ht
        clear hc
        rintro e w2 ⟨rfl, hg2, h3⟩
        replace h3 : Rd w2 b r false := h3
        obtain ⟨d0, d1⟩ := blk2' h3
        clear c0 c1 h2 f0
        go_wp2_with fail
        go_ret
        rw [ht.out]
        exact ⟨ret_str (by rw [bs_extract, List.drop_zero]), h3, grown_trans hg1 (grown_trans (grown_set _ _ _ _) hg2)⟩
    · have hn2 : (bs l1).size < n := by omega
      have ht := hid (show textL l = none by rw [textL, hr]; rw [bs_size] at hn2; simp; omega)
      clear hr hv hsz hl1 hn
      go_enter Tryd.func16, Tryd.ntmps16
      go_wp2_with fail
      refine H.out.mono ?_
      rintro e w1 ⟨rfl, h1, hg1⟩
      obtain ⟨c0, c1⟩ := blk2' h1
      go_wp2_with fail
      refine (fail_any b l1 false w1 h1).mono ?_
      rintro e w2 ⟨rfl, h3, hg⟩
      go_wp2_with fail
      go_ret
      exact txRes_none ht.out rfl h3 (grown_trans hg1 hg)
end Go.Proofs.YtbefmjodpndndaaDoor
