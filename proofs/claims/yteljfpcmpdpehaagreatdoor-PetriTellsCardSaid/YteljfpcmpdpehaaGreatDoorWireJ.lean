
/- Wire: the reader's Int, close, Text. -/
import Derived.Test.YteljfpcmpdpehaaGreatDoorWireNum
set_option linter.unusedSimpArgs false
set_option linter.unusedVariables false
namespace Go.Proofs.YteljfpcmpdpehaaGreatDoor
open Go.RowKit Go.IntWalk

set_option maxRecDepth 100000 in
set_option maxHeartbeats 400000 in
theorem int_any (b : Nat) (l : List UInt8) (bad : Bool) (w : World) (h : Rd w b l bad) (hl : l.length ≤ 1000000000000) (he : Env w) :
    Calls Tryz.prog 35 #[.pointer (some ⟨b, 0, none⟩)] w (RdRes w b bad (numL l 59 (-9223372036854775808))) := by
  have H := hid (number_any b l bad 59 (-9223372036854775808) w h hl he)
  cases hr : numL l 59 (-9223372036854775808) with
  | none =>
    rw [hr] at H
    go_enter Tryz.func35, Tryz.ntmps35
    go_wp2_with fail
    refine H.out.mono ?_
    rintro e w1 ⟨rfl, h1, h2⟩
    go_wp2_with fail
    go_ret
    exact ⟨rfl, h1, h2⟩
  | some x =>
    obtain ⟨v, l'⟩ := x
    rw [hr] at H
    go_enter Tryz.func35, Tryz.ntmps35
    go_wp2_with fail
    refine H.out.mono ?_
    rintro e w1 ⟨rfl, h1, h2⟩
    go_wp2_with fail
    go_ret
    exact ⟨rfl, h1, h2⟩

/-- One byte read. -/
def cutL (l : List UInt8) (c : UInt8) : Option (List UInt8) :=
  match l with
  | [] => none
  | x :: r => if x = c then some r else none
def ClRes (w : World) (b : Nat) (bad : Bool) (r : Option (List UInt8)) (e : Ending) (w' : World) : Prop :=
  e = .returned (.tuple #[]) ∧ w.grownBy w' (some b) ∧ match r with
    | some l => Rd w' b l bad
    | none => Rd w' b [] true
set_option maxRecDepth 100000 in
set_option maxHeartbeats 400000 in
theorem close_any (b : Nat) (l : List UInt8) (bad : Bool) (c : UInt8) (w : World) (h : Rd w b l bad) :
    Calls Tryz.prog 98 #[.pointer (some ⟨b, 0, none⟩), .string ⟨#[c]⟩] w (ClRes w b bad (cutL l c)) := by
  obtain ⟨c0, c1⟩ := blk2' h
  have f0 := h.frozen 0
  have hz := h.lt
  have hp : Lib.hasPrefix l [c] = (cutL l c).isSome := by
    cases l with
    | nil => simp [Lib.hasPrefix, cutL]
    | cons x r =>
      simp only [Lib.hasPrefix, cutL, List.isPrefixOf]
      by_cases hx : x = c
      · simp [hx]
      · have : (c == x) = false := by simp [Ne.symm hx]
        simp [hx, this]
  have Hp := hid hp
  clear hp
  cases hc : cutL l c with
  | none =>
    have Hc := hid hc
    rw [hc] at Hp
    clear hc
    go_enter Tryz.func98, Tryz.ntmps98
    go_wp2_with fail
    refine (Tryz.strings_CutPrefix _ _ _).mono ?_
    rw [show Lib.hasPrefix (bs l).data.toList (⟨#[c]⟩ : ByteArray).data.toList = false from by have := Hp.out; simpa [bs] using this]
    rintro e w1 ⟨rfl, rfl⟩
    generalize (⟨(Lib.trimPrefix (bs l).data.toList (⟨#[c]⟩ : ByteArray).data.toList).toArray⟩ : ByteArray) = S
    go_wp2_with fail
    refine (fail_any b S.data.toList bad _ ?_).mono ?_
    · have := Blk.set_ h 0 (.string S)
      unfold Rd
      rw [bs_of]
      simpa using this
    rintro e w2 ⟨rfl, h2, hg⟩
    go_wp2_with fail
    go_end0
    exact ⟨rfl, grown_trans (grown_set _ _ _ _) hg, h2⟩
  | some r =>
    have Hc := hid hc
    rw [hc] at Hp
    clear hc
    go_enter Tryz.func98, Tryz.ntmps98
    go_wp2_with fail
    refine (Tryz.strings_CutPrefix _ _ _).mono ?_
    rw [show Lib.hasPrefix (bs l).data.toList (⟨#[c]⟩ : ByteArray).data.toList = true from by have := Hp.out; simpa [bs] using this,
      show (⟨(Lib.trimPrefix (bs l).data.toList (⟨#[c]⟩ : ByteArray).data.toList).toArray⟩ : ByteArray) = bs r from by
        have h1 := Hp.out
        have h2 := Hc.out
        have e1 : (bs l).data.toList = l := by simp [bs]
        rw [e1]
        show bs (Lib.trimPrefix l [c]) = bs r
        simp only [Option.isSome_some] at h1
        rw [Lib.trimPrefix, if_pos h1]
        cases l with
        | nil => simp [cutL] at h2
        | cons x t =>
          by_cases hx : x = c
          · simp [cutL, hx] at h2
            simp [h2]
          · simp [cutL, hx] at h2]
    rintro e w1 ⟨rfl, rfl⟩
    go_wp2_with fail
    go_end0
    refine ⟨rfl, grown_set _ _ _ _, ?_⟩
    have := Blk.set_ h 0 (.string (bs r))
    unfold Rd
    simpa using this

def textL (l : List UInt8) : Option (List UInt8 × List UInt8) :=
  match numL l 58 0 with
  | none => none
  | some (n, l1) => if (l1.length : Int) < n then none else (cutL (l1.drop n.toNat) 44).map fun r => (l1.take n.toNat, r)
def TxRes (w : World) (b : Nat) (r : Option (List UInt8 × List UInt8)) (e : Ending) (w' : World) : Prop :=
  match r with
  | some (s, l) => e = .returned (.string (bs s)) ∧ Rd w' b l false ∧ w.grownBy w' (some b)
  | none => e = .returned (.string ⟨#[]⟩) ∧ Rd w' b [] true ∧ w.grownBy w' (some b)
theorem txRes_none {w w' : World} {b : Nat} {r : Option (List UInt8 × List UInt8)} {e : Ending} (hr : r = none) (he : e = .returned (.string ⟨#[]⟩)) (h1 : Rd w' b [] true) (h2 : w.grownBy w' (some b)) : TxRes w b r e w' := by
  subst hr; exact ⟨he, h1, h2⟩
theorem numL_shorter {l : List UInt8} {c : UInt8} {m v : Int} {r : List UInt8} (h : numL l c m = some (v, r)) : r.length ≤ l.length ∧ m ≤ v := by
  unfold numL at h
  split at h
  · cases h
  · split at h
    · split at h
      · rename_i hv
        injection h with h
        injection h with h1 h2
        subst h1 h2
        exact ⟨by simp, hv.2⟩
      · cases h
    · cases h
end Go.Proofs.YteljfpcmpdpehaaGreatDoor
