
/- Wire: the reference's Num, Int, Text, Nums, Texts. -/
import Derived.Test.YtfofmbmmighdiaaDoorWire4
set_option linter.unusedSimpArgs false
set_option linter.unusedVariables false
namespace Go.Proofs.YtfofmbmmighdiaaDoor
open Go.RowKit Go.IntWalk

theorem numL_zero (l : List UInt8) (en : UInt8) : numL l en 0 = match numL l en (-9223372036854775808) with
    | some (v, r) => if v < 0 then none else some (v, r)
    | none => none := by
  unfold numL
  split
  · rfl
  · cases h : Lib.atoiAll ((l.take 21).take (Lib.indexByte (l.take 21) en).toNat) with
    | ok v =>
      have hb := Lib.atoiAll_bounds h
      simp only
      by_cases h1 : Lib.itoa v = (l.take 21).take (Lib.indexByte (l.take 21) en).toNat
      · by_cases h2 : v < 0
        · rw [if_neg (by omega), if_pos ⟨h1, hb.1⟩]; simp [h2]
        · rw [if_pos ⟨h1, by omega⟩, if_pos ⟨h1, hb.1⟩]; simp [h2]
      · rw [if_neg (fun h => h1 h.1), if_neg (fun h => h1 h.1)]
    | _ => rfl
set_option maxRecDepth 100000 in
set_option maxHeartbeats 1000000 in
theorem numberR_any (b : Nat) (l : List UInt8) (bad : Bool) (en : UInt8) (hen : 57 < en.toNat) (w : World) (h : Rr w b l bad) (hl : l.length ≤ 1000000000000) :
    Calls Tryd.prog 71 #[.pointer (some ⟨b, 0, none⟩), .int .u8 en.toNat] w (RrRes w b bad (numL l en 0)) := by
  have H := hid (aheadR_any b l bad en hen w h hl)
  have hz := hid (numL_zero l en)
  cases hr : numL l en (-9223372036854775808) with
  | none =>
    rw [hr] at H hz
    go_enter Tryd.func71, Tryd.ntmps71
    go_wp2_with fail
    refine H.out.mono ?_
    rintro e w1 ⟨rfl, h1, hg⟩
    go_wp2_with fail
    go_ret
    exact rrRes_none hz.out rfl h1 hg
  | some x =>
    obtain ⟨v, r⟩ := x
    rw [hr] at H hz
    have hv := (numL_bd hr).bd
    clear hr
    by_cases hn : v < 0
    · have hz2 := hid (show numL l en 0 = none by rw [hz.out]; simp [hn])
      go_enter Tryd.func71, Tryd.ntmps71
      go_wp2_with fail
      refine H.out.mono ?_
      rintro e w1 ⟨rfl, h1, hg⟩
      go_wp2_with fail
      refine (failR_any _ _ _ _ h1).mono ?_
      rintro e w2 ⟨rfl, h2, hg2⟩
      go_wp2_with fail
      go_ret
      exact rrRes_none hz2.out rfl h2 (grown_trans hg hg2)
    · have hz2 := hid (show numL l en 0 = some (v, r) by rw [hz.out]; simp [hn])
      go_enter Tryd.func71, Tryd.ntmps71
      go_wp2_with fail
      refine H.out.mono ?_
      rintro e w1 ⟨rfl, h1, hg⟩
      go_wp2_with fail
      go_ret
      rw [hz2.out]
      exact ⟨rfl, h1, hg⟩
set_option maxRecDepth 100000 in
set_option maxHeartbeats 400000 in
theorem numRr_any (b : Nat) (l : List UInt8) (bad : Bool) (w : World) (h : Rr w b l bad) (hl : l.length ≤ 1000000000000) :
    Calls Tryd.prog 48 #[.pointer (some ⟨b, 0, none⟩)] w (RrRes w b bad (numL l 59 0)) := by
  have H := hid (numberR_any b l bad 59 (by decide) w h hl)
  cases hr : numL l 59 0 with
  | none =>
    rw [hr] at H
    go_enter Tryd.func48, Tryd.ntmps48
    go_wp2_with fail
    refine H.out.mono ?_
    rintro e w1 ⟨rfl, h1, h2⟩
    go_wp2_with fail
    go_ret
    exact ⟨rfl, h1, h2⟩
  | some x =>
    obtain ⟨v, l'⟩ := x
    rw [hr] at H
    go_enter Tryd.func48, Tryd.ntmps48
    go_wp2_with fail
    refine H.out.mono ?_
    rintro e w1 ⟨rfl, h1, h2⟩
    go_wp2_with fail
    go_ret
    exact ⟨rfl, h1, h2⟩
set_option maxRecDepth 100000 in
set_option maxHeartbeats 400000 in
theorem intRr_any (b : Nat) (l : List UInt8) (bad : Bool) (w : World) (h : Rr w b l bad) (hl : l.length ≤ 1000000000000) :
    Calls Tryd.prog 44 #[.pointer (some ⟨b, 0, none⟩)] w (RrRes w b bad (numL l 59 (-9223372036854775808))) := by
  have H := hid (aheadR_any b l bad 59 (by decide) w h hl)
  cases hr : numL l 59 (-9223372036854775808) with
  | none =>
    rw [hr] at H
    go_enter Tryd.func44, Tryd.ntmps44
    go_wp2_with fail
    refine H.out.mono ?_
    rintro e w1 ⟨rfl, h1, h2⟩
    go_wp2_with fail
    go_ret
    exact ⟨rfl, h1, h2⟩
  | some x =>
    obtain ⟨v, l'⟩ := x
    rw [hr] at H
    go_enter Tryd.func44, Tryd.ntmps44
    go_wp2_with fail
    refine H.out.mono ?_
    rintro e w1 ⟨rfl, h1, h2⟩
    go_wp2_with fail
    go_ret
    exact ⟨rfl, h1, h2⟩
def TrRes (w : World) (b : Nat) (r : Option (List UInt8 × List UInt8)) (e : Ending) (w' : World) : Prop :=
  match r with
  | some (s, l) => e = .returned (.string (bs s)) ∧ Rr w' b l false ∧ w.grownBy w' (some b)
  | none => e = .returned (.string ⟨#[]⟩) ∧ Rr w' b [] true ∧ w.grownBy w' (some b)
theorem trRes_none {w w' : World} {b : Nat} {r : Option (List UInt8 × List UInt8)} {e : Ending} (hr : r = none) (he : e = .returned (.string ⟨#[]⟩)) (h1 : Rr w' b [] true) (h2 : w.grownBy w' (some b)) : TrRes w b r e w' := by
  subst hr; exact ⟨he, h1, h2⟩
def LrI (w : World) (b : Nat) (r : Option (List Int × List UInt8)) (e : Ending) (w' : World) : Prop :=
  match r with
  | some (xs, l) => ∃ v, e = .returned v ∧ OwnI w' w.heap.size v xs ∧ Rr w' b l false ∧ w.grownBy w' (some b)
  | none => e = .returned (.slice none 0 0) ∧ Rr w' b [] true ∧ w.grownBy w' (some b)
def LrS (w : World) (b : Nat) (r : Option (List (List UInt8) × List UInt8)) (e : Ending) (w' : World) : Prop :=
  match r with
  | some (xs, l) => ∃ v, e = .returned v ∧ OwnS w' w.heap.size v xs ∧ Rr w' b l false ∧ w.grownBy w' (some b)
  | none => e = .returned (.slice none 0 0) ∧ Rr w' b [] true ∧ w.grownBy w' (some b)
end Go.Proofs.YtfofmbmmighdiaaDoor
