
/- Wire: the reader's Int, close, Text. -/
import Derived.Test.YtfofmbmmighdiaaDoorWireNum
set_option linter.unusedSimpArgs false
set_option linter.unusedVariables false
namespace Go.Proofs.YtfofmbmmighdiaaDoor
open Go.RowKit Go.IntWalk

set_option maxRecDepth 100000 in
set_option maxHeartbeats 400000 in
theorem int_any (b : Nat) (l : List UInt8) (bad : Bool) (w : World) (h : Rd w b l bad) (hl : l.length ≤ 1000000000000) (he : Env w) :
    Calls Tryd.prog 41 #[.pointer (some ⟨b, 0, none⟩)] w (RdRes w b bad (numL l 59 (-9223372036854775808))) := by
  have H := hid (number_any b l bad 59 (-9223372036854775808) w h hl he)
  cases hr : numL l 59 (-9223372036854775808) with
  | none =>
    rw [hr] at H
    go_enter Tryd.func41, Tryd.ntmps41
    go_wp2_with fail
    refine H.out.mono ?_
    rintro e w1 ⟨rfl, h1, h2⟩
    go_wp2_with fail
    go_ret
    exact ⟨rfl, h1, h2⟩
  | some x =>
    obtain ⟨v, l'⟩ := x
    rw [hr] at H
    go_enter Tryd.func41, Tryd.ntmps41
    go_wp2_with fail
    refine H.out.mono ?_
    rintro e w1 ⟨rfl, h1, h2⟩
    go_wp2_with fail
    go_ret
    exact ⟨rfl, h1, h2⟩

/-- One byte read. -/
def cutL (l : List UInt8) (c : UInt8) : Option (List UInt8) :=
  match l with
  | [] => none
  | x :: r => if x = c then some r else none
def ClRes (w : World) (b : Nat) (bad : Bool) (r : Option (List UInt8)) (e : Ending) (w' : World) : Prop :=
  e = .returned (.tuple #[]) ∧ w.grownBy w' (some b) ∧ match r with
    | some l => Rd w' b l bad
    | none => Rd w' b [] true
def textL (l : List UInt8) : Option (List UInt8 × List UInt8) :=
  match numL l 58 0 with
  | none => none
  | some (n, l1) => if (l1.length : Int) < n then none else (cutL (l1.drop n.toNat) 44).map fun r => (l1.take n.toNat, r)
def TxRes (w : World) (b : Nat) (r : Option (List UInt8 × List UInt8)) (e : Ending) (w' : World) : Prop :=
  match r with
  | some (s, l) => e = .returned (.string (bs s)) ∧ Rd w' b l false ∧ w.grownBy w' (some b)
  | none => e = .returned (.string ⟨#[]⟩) ∧ Rd w' b [] true ∧ w.grownBy w' (some b)
theorem txRes_none {w w' : World} {b : Nat} {r : Option (List UInt8 × List UInt8)} {e : Ending} (hr : r = none) (he : e = .returned (.string ⟨#[]⟩)) (h1 : Rd w' b [] true) (h2 : w.grownBy w' (some b)) : TxRes w b r e w' := by
  subst hr; exact ⟨he, h1, h2⟩
theorem numL_shorter {l : List UInt8} {c : UInt8} {m v : Int} {r : List UInt8} (h : numL l c m = some (v, r)) : r.length ≤ l.length ∧ m ≤ v := by
  unfold numL at h
  split at h
  · cases h
  · split at h
    · split at h
      · rename_i hv
        injection h with h
        injection h with h1 h2
        subst h1 h2
        exact ⟨by simp, hv.2⟩
      · cases h
    · cases h
end Go.Proofs.YtfofmbmmighdiaaDoor
