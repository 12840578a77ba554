
/- Stock: slices.SortStableFunc of at most 20 ints of the call's own, with a comparing closure; Order. -/
import Derived.Test.YtfpehakllnkaeaaGreatDoorStkH
set_option linter.unusedSimpArgs false
set_option linter.unusedVariables false
namespace Go.Proofs.YtfpehakllnkaeaaGreatDoor
open Go.RowKit Go.IntWalk

set_option maxRecDepth 100000 in
theorem insortE_any (fv : Value) (A : Option Addr) (n c : Nat) (a : Nat) (ha : a ≤ 1000) (w : World) :
    Calls Tryz.prog 94 #[.slice A n c, .int .i64 a, .int .i64 a, fv] w fun e w' => e = .returned (.tuple #[]) ∧ Below w.heap.size w w' := by
  go_enter Tryz.func94, Tryz.ntmps94
  go_wp2_with fail
  go_loopw [8] (fun iv wr => iv = .int .i64 ((a : Int) + 1) ∧ Below w.heap.size w wr) (fun _ _ => 0)
  case atStart => exact ⟨rfl, Below.refl _ _⟩
  case round =>
    obtain ⟨rfl, hB⟩ := hrel
    have HB := hid hB
    clear hB
    have hge : ¬ ((a : Int) + 1 < a) := by omega
    go_wp2_with fail
    go_end0
    exact ⟨rfl, HB.out⟩
/-- What a sort leaves of a row of the call's own. -/
def SortR (w w' : World) (base : Nat) (v : Value) (key : Nat → Int) (l : List Nat) : Prop := OwnI w' base v (toI (isort key l)) ∧ w.grownBy w' v.ownBlock
theorem toI_nil : toI [] = [] := rfl
theorem insort_own (gf : Nat) (lb : Array Value) (eg : ∀ args w, (callFunc gf args).run Tryz.prog w = .ok (.enter gf args) w) (key : Nat → Int) (base : Nat) (v : Value) (l : List Nat) (w : World) (hl : l.length ≤ 1000) (hO : OwnI w base v (toI l))
    (hp : ∀ (W : World) (x y : Nat), w.grownBy W v.ownBlock → x ∈ l → y ∈ l → Calls Tryz.prog gf (#[.int .i64 x, .int .i64 y] ++ lb) W fun e w' => e = .returned (.int .i64 (cmpI (key x) (key y))) ∧ Below W.heap.size W w') :
    Calls Tryz.prog 94 #[v, .int .i64 0, .int .i64 l.length, .func (.func gf) #[] lb] w fun e w' => e = .returned (.tuple #[]) ∧ SortR w w' base v key l := by
  by_cases h0 : 0 < l.length
  · obtain ⟨g, cap, cur, hv, _⟩ := own_cell hO (by rw [toI_len]; exact h0)
    rw [toI_len] at hv
    subst hv
    exact insort_any gf lb eg key base g cap l w hl hO hp
  · have e : l = [] := List.eq_nil_of_length_eq_zero (by omega)
    subst e
    obtain ⟨A, c, hv⟩ := own_form hO
    have hv2 : v = .slice A 0 c := hv
    subst hv2
    refine (insortE_any (.func (.func gf) #[] lb) A 0 c 0 (by omega) w).mono ?_
    rintro e w' ⟨rfl, hB⟩
    exact ⟨rfl, hO.below hB, gr_below hB _⟩
theorem isort_len (key : Nat → Int) (l : List Nat) : (isort key l).length = l.length := (isort_perm key l).length_eq
set_option maxRecDepth 100000 in
set_option maxHeartbeats 2000000 in
theorem stable_any (gf : Nat) (lb : Array Value) (eg : ∀ args w, (callFunc gf args).run Tryz.prog w = .ok (.enter gf args) w) (key : Nat → Int) (base : Nat) (v : Value) (l : List Nat) (w : World) (hl : l.length ≤ 20) (hO : OwnI w base v (toI l))
    (hp : ∀ (W : World) (x y : Nat), w.grownBy W v.ownBlock → x ∈ l → y ∈ l → Calls Tryz.prog gf (#[.int .i64 x, .int .i64 y] ++ lb) W fun e w' => e = .returned (.int .i64 (cmpI (key x) (key y))) ∧ Below W.heap.size W w') :
    Calls Tryz.prog 82 #[v, .int .i64 l.length, .func (.func gf) #[] lb] w fun e w' => e = .returned (.tuple #[]) ∧ SortR w w' base v key l := by
  have HP := hid hp
  have HO := hid hO
  have HEG := hid eg
  have hform := own_form hO
  rw [toI_len] at hform
  obtain ⟨A, c, rfl⟩ := hform
  clear hp hO eg
  by_cases h20 : l.length = 20
  · have H20 := hid h20
    have hins := hid (fun wr hO hp => (insort_own gf lb HEG.out key base (.slice A l.length c) l wr (by omega) hO hp))
    rw [h20] at HO HP hins ⊢
    rw [show ((20 : Nat) : Int) = 20 from rfl]
    clear h20
    go_enter Tryz.func82, Tryz.ntmps82
    go_wp2_with fail
    go_loopw [7, 8] (fun av bv wr => (av = .int .i64 0 ∧ bv = .int .i64 20 ∧ OwnI wr base (.slice A 20 c) (toI l) ∧ w.grownBy wr (Value.slice A 20 c).ownBlock) ∨ (av = .int .i64 20 ∧ bv = .int .i64 40 ∧ SortR w wr base (.slice A 20 c) key l)) (fun av _ _ => 1 - (intOf av).toNat)
    case atStart => exact .inl ⟨rfl, rfl, HO.out, World.grownBy.refl _ _⟩
    case round =>
      rcases hrel with ⟨rfl, rfl, hO2, hg2⟩ | ⟨rfl, rfl, hR⟩
      · have HC := hid (hins.out wr hO2 (fun W x y hg hx hy => HP.out W x y (gr_tr hg2 hg) hx hy))
        have HG2 := hid hg2
        clear hO2 hg2
        go_wp2_with fail
        refine HC.out.mono ?_
        rintro e w3 ⟨rfl, h1, h2⟩
        have H1 := hid h1; have H2 := hid (gr_tr HG2.out h2)
        clear h1 h2 HC
        go_wp2_with fail
        go_roundw
        case rel => exact .inr ⟨rfl, rfl, H1.out, H2.out⟩
        case measure => simp [intOf]
      · have HR := hid hR
        clear hR
        have HC := hid (insortE_any (.func (.func gf) #[] lb) A 20 c 20 (by omega) wr)
        go_wp2_with fail
        refine HC.out.mono ?_
        rintro e w3 ⟨rfl, hB3⟩
        have HR3 := hid (show SortR w w3 base (.slice A 20 c) key l from ⟨HR.out.1.below hB3, gr_tr HR.out.2 (gr_below hB3 _)⟩)
        clear hB3 HC HR
        go_wp2_with fail
        go_loopw [6] (fun sv wr => sv = .int .i64 20 ∧ SortR w wr base (.slice A 20 c) key l) (fun _ _ => 0)
        case atStart => exact ⟨rfl, HR3.out⟩
        case round =>
          obtain ⟨rfl, hR⟩ := hrel
          have HR := hid hR
          clear hR
          go_wp2_with fail
          go_end0
          exact ⟨rfl, HR.out⟩
  · have HC := hid (insort_own gf lb HEG.out key base (.slice A l.length c) l w (by omega) HO.out HP.out)
    have hlt : (l.length : Int) < 20 := by omega
    clear h20
    go_enter Tryz.func82, Tryz.ntmps82
    go_wp2_with fail
    go_loopw [7, 8] (fun av bv wr => av = .int .i64 0 ∧ bv = .int .i64 20 ∧ wr = w) (fun _ _ _ => 0)
    case atStart => exact ⟨rfl, rfl, rfl⟩
    case round =>
      obtain ⟨rfl, rfl, rfl⟩ := hrel
      go_wp2_with fail
      refine HC.out.mono ?_
      rintro e w3 ⟨rfl, h3⟩
      have HR3 := hid h3
      clear h3 HC
      go_wp2_with fail
      go_loopw [6] (fun sv wq => sv = .int .i64 20 ∧ SortR wr wq base (.slice A l.length c) key l) (fun _ _ => 0)
      case atStart => exact ⟨rfl, HR3.out⟩
      case round =>
        obtain ⟨rfl, hR⟩ := hrel
        have HR := hid hR
        clear hR
        go_wp2_with fail
        go_end0
        exact ⟨rfl, HR.out⟩
set_option maxRecDepth 100000 in
theorem sortStable_any (gf : Nat) (lb : Array Value) (eg : ∀ args w, (callFunc gf args).run Tryz.prog w = .ok (.enter gf args) w) (key : Nat → Int) (base : Nat) (v : Value) (l : List Nat) (w : World) (hl : l.length ≤ 20) (hO : OwnI w base v (toI l))
    (hp : ∀ (W : World) (x y : Nat), w.grownBy W v.ownBlock → x ∈ l → y ∈ l → Calls Tryz.prog gf (#[.int .i64 x, .int .i64 y] ++ lb) W fun e w' => e = .returned (.int .i64 (cmpI (key x) (key y))) ∧ Below W.heap.size W w') :
    Calls Tryz.prog 53 #[v, .func (.func gf) #[] lb] w fun e w' => e = .returned (.tuple #[]) ∧ SortR w w' base v key l := by
  have HC := hid (stable_any gf lb eg key base v l w hl hO hp)
  have hform := own_form hO
  rw [toI_len] at hform
  obtain ⟨A, c, rfl⟩ := hform
  clear hp hO eg
  go_enter Tryz.func53, Tryz.ntmps53
  go_wp2_with fail
  refine HC.out.mono ?_
  rintro e w3 ⟨rfl, h3⟩
  have HR3 := hid h3
  clear h3 HC
  go_wp2_with fail
  go_end0
  exact ⟨rfl, HR3.out⟩
end Go.Proofs.YtfpehakllnkaeaaGreatDoor
