
/- Lease: the reference's desk in memory; there, Holds, Ends. -/
import Derived.Test.YtappgjdnfllblaaDoorLzE
import Derived.Test.YtappgjdnfllblaaDoorLeaS
set_option linter.unusedSimpArgs false
set_option linter.unusedVariables false
namespace Go.Proofs.YtappgjdnfllblaaDoor
open Go.RowKit Go.IntWalk Go.Maps Go.WideMaps
/-- What the reference knows of a zone: its home, ends, no, asked, heard, gone, asks. -/
abbrev Zn := Int × Int × Int × Bool × Int × Int × Int
def znI (x : Zn) : Prop := I64 x.1 ∧ I64 x.2.1 ∧ I64 x.2.2.1 ∧ I64 x.2.2.2.2.1 ∧ I64 x.2.2.2.2.2.1 ∧ I64 x.2.2.2.2.2.2
def znRK : RK Zn where
  e := 90
  t := 50
  size := 7
  bytes := 56
  z := .agg #[.int .i64 0, .int .i64 0, .int .i64 0, .bool false, .int .i64 0, .int .i64 0, .int .i64 0]
  cs x := [.int .i64 x.1, .int .i64 x.2.1, .int .i64 x.2.2.1, .bool x.2.2.2.1, .int .i64 x.2.2.2.2.1, .int .i64 x.2.2.2.2.2.1, .int .i64 x.2.2.2.2.2.2]
  ok x := znI x
  und := Tryd.underlying50
  info := by kernel_rfl
  zcs := rfl
  pos := by omega
  small := by omega
  len _ := rfl
  one x v hv := by simp at hv; rcases hv with rfl | rfl | rfl | rfl | rfl | rfl | rfl <;> rfl
  rsz := rfl
  rep w B x h := ⟨[.int .i64 x.1], _, rfl, rfl, rfl, ⟨rfl, h.1⟩, [.int .i64 x.2.1], _, rfl, rfl, rfl, ⟨rfl, h.2.1⟩, [.int .i64 x.2.2.1], _, rfl, rfl, rfl, ⟨rfl, h.2.2.1⟩, [.bool x.2.2.2.1], _, rfl, rfl, rfl, rfl, [.int .i64 x.2.2.2.2.1], _, rfl, rfl, rfl, ⟨rfl, h.2.2.2.1⟩, [.int .i64 x.2.2.2.2.2.1], _, rfl, rfl, rfl, ⟨rfl, h.2.2.2.2.1⟩, rfl, h.2.2.2.2.2⟩
  inv w B c x h := by
    obtain ⟨c1, d1, rfl, _, _, ⟨rfl, i0⟩, c2, d2, rfl, _, _, ⟨rfl, i1⟩, c3, d3, rfl, _, _, ⟨rfl, i2⟩, c4, d4, rfl, _, _, rfl, c5, d5, rfl, _, _, ⟨rfl, i3⟩, c6, d6, rfl, _, _, ⟨rfl, i4⟩, rfl, i5⟩ := h
    exact ⟨rfl, i0, i1, i2, i3, i4, i5⟩
def zoneOf (d : LDk) (k : Nat) : Zn := (d.home.getD k 0, lEnds d k, (d.hs k).2.1, (d.hs k).2.2, (d.gs k).2.1, (d.gs k).2.2.1, (d.gs k).2.2.2)
def zonesL (d : LDk) : List Zn := (List.range d.home.length).map (zoneOf d)
theorem zonesL_len (d : LDk) : (zonesL d).length = d.home.length := by simp [zonesL]
theorem zonesL_at (d : LDk) {k : Nat} (hk : k < (zonesL d).length) : (zonesL d)[k] = zoneOf d k := by simp [zonesL]
/-- Block b is the reference's desk. -/
structure RLd (w : World) (base b : Nat) (v : Value) (d : LDk) : Prop where
  k : Blk w b 52 #[.int .i64 d.me, v]
  r : znRK.Own w base v (zonesL d)
  ba : base ≤ b
section
variable {w w' : World} {base b : Nat} {v : Value} {d : LDk}
theorem RLd.below (h : RLd w base b v d) (hb : Below w.heap.size w w') : RLd w' base b v d := ⟨h.k.below hb h.k.lt, h.r.below hb, h.ba⟩
theorem RLd.drw (h : RLd w base b v d) : RLd w.drew base b v d := ⟨h.k.drew, h.r.drew, h.ba⟩
theorem RLd.grown {row : Option Nat} (h : RLd w base b v d) (hg : w.grownBy w' row) (h1 : v.ownBlock = none ∨ v.ownBlock ≠ row) (h2 : some b ≠ row) : RLd w' base b v d :=
  ⟨h.k.grown hg h2, h.r.kept hg h1, h.ba⟩
theorem RLd.form (h : RLd w base b v d) : ∃ A c, v = .slice A d.home.length c := by
  obtain ⟨A, c, e⟩ := h.r.form
  rw [zonesL_len] at e
  exact ⟨A, c, e⟩
theorem RLd.at_ (h : RLd w base b v d) : w.cell? ⟨b, 0, none⟩ = some (.int .i64 d.me) ∧ w.cell? ⟨b, 1, none⟩ = some v := ⟨h.k.cell 0, h.k.cell 1⟩
/-- A zone's cells. -/
theorem RLd.zone {A : Option Addr} {n c : Nat} (h : RLd w base b (.slice A n c) d) {k : Nat} (hk : k < d.home.length) : ∃ g, A = some ⟨g, 0, none⟩ ∧ g < w.heap.size ∧ base ≤ g ∧ g ≠ b ∧ n = d.home.length ∧
    w.cell? ⟨g, k * 7, none⟩ = some (.int .i64 (zoneOf d k).1) ∧ w.cell? ⟨g, k * 7 + 1, none⟩ = some (.int .i64 (zoneOf d k).2.1) ∧ w.cell? ⟨g, k * 7 + 2, none⟩ = some (.int .i64 (zoneOf d k).2.2.1) ∧ w.cell? ⟨g, k * 7 + 3, none⟩ = some (.bool (zoneOf d k).2.2.2.1) ∧
    w.cell? ⟨g, k * 7 + 4, none⟩ = some (.int .i64 (zoneOf d k).2.2.2.2.1) ∧ w.cell? ⟨g, k * 7 + 5, none⟩ = some (.int .i64 (zoneOf d k).2.2.2.2.2.1) ∧ w.cell? ⟨g, k * 7 + 6, none⟩ = some (.int .i64 (zoneOf d k).2.2.2.2.2.2) ∧ ∀ o, w.frozen? ⟨g, o, none⟩ = false := by
  have hk' : k < (zonesL d).length := by rw [zonesL_len]; exact hk
  obtain ⟨g, cap, cur, hv, hg, hb, hc, hm, hcell⟩ := own_cell h.r (by omega)
  injection hv with hv hn hc'
  subst hv hn hc'
  obtain ⟨h1, h2, h3, h4⟩ := RK.Own.at_ (R := znRK) h.r hk'
  rw [zonesL_at] at h3
  refine ⟨g, rfl, h1, h2, ?_, zonesL_len d, h3 0 (by decide), h3 1 (by decide), h3 2 (by decide), h3 3 (by decide), h3 4 (by decide), h3 5 (by decide), h3 6 (by decide), h4⟩
  rintro rfl
  exact Blk.ne_ (t := 90) hb h.k (by decide) rfl
set_option maxRecDepth 100000 in
set_option maxHeartbeats 400000 in
theorem there_no (h : RLd w base b v d) {z : Int} (hz : ¬ (0 ≤ z ∧ z < d.home.length)) : Calls Tryd.prog 66 #[.pointer (some ⟨b, 0, none⟩), .int .i64 z] w fun e w' => e = .returned (.bool false) ∧ w = w' := by
  obtain ⟨A, c, rfl⟩ := h.form
  obtain ⟨d0, d1⟩ := h.at_
  by_cases h0 : 0 ≤ z
  · have h1 : (d.home.length : Int) ≤ z := by omega
    have h2 : ¬ z < 0 := by omega
    clear hz
    go_enter Tryd.func66, Tryd.ntmps66
    go_wp2_with fail
    go_ret
    exact ⟨ret_bool (by simp <;> omega), rfl⟩
  · have h1 : z < 0 := by omega
    clear hz
    go_enter Tryd.func66, Tryd.ntmps66
    go_wp2_with fail
    go_ret
    exact ⟨ret_bool (by simp <;> omega), rfl⟩
set_option maxRecDepth 100000 in
set_option maxHeartbeats 400000 in
theorem there_yes (h : RLd w base b v d) {z : Int} (h0 : 0 ≤ z) (h1 : z < d.home.length) : Calls Tryd.prog 66 #[.pointer (some ⟨b, 0, none⟩), .int .i64 z] w fun e w' => e = .returned (.bool true) ∧ w = w' := by
  obtain ⟨A, c, rfl⟩ := h.form
  obtain ⟨d0, d1⟩ := h.at_
  go_enter Tryd.func66, Tryd.ntmps66
  go_wp2_with fail
  go_ret
  exact ⟨ret_bool (by simp <;> omega), rfl⟩
set_option maxRecDepth 100000 in
set_option maxHeartbeats 400000 in
theorem rends_any (h : RLd w base b v d) (ok : d.Ok) {z : Int} : Calls Tryd.prog 32 #[.pointer (some ⟨b, 0, none⟩), .int .i64 z] w fun e w' => e = .returned (.int .i64 (lEnds d z)) ∧ w = w' := by
  by_cases hz : 0 ≤ z ∧ z < d.home.length
  · have hc := hid (there_yes h hz.1 hz.2)
    obtain ⟨k, rfl⟩ : ∃ k : Nat, z = k := ⟨z.toNat, by omega⟩
    have hk : k < d.home.length := by omega
    obtain ⟨A, c, rfl⟩ := h.form
    obtain ⟨d0, d1⟩ := h.at_
    obtain ⟨g, rfl, g1, g2, g3, -, z0, z1, z2, z3, z4, z5, z6, fz⟩ := h.zone hk
    have HE := hid (show (zoneOf d k).2.1 = lEnds d k from rfl)
    have hk2 : (k : Int) < d.home.length := by omega
    generalize (zoneOf d k).2.1 = x1 at *
    clear hz z0 z2 z3 z4 z5 z6 h ok
    go_enter Tryd.func32, Tryd.ntmps32
    go_wp2_with fail
    refine hc.out.mono ?_
    rintro e w1 ⟨rfl, rfl⟩
    go_wp2_with fail
    go_ret
    exact ⟨ret_int HE.out, rfl⟩
  · have hc := hid (there_no h hz)
    have HE := hid (show (0 : Int) = lEnds d z by
      have hp : d.hp z = false := by simp only [LDk.hp, decide_eq_false_iff_not]; omega
      have hg : d.gp z = false := by simp only [LDk.gp, decide_eq_false_iff_not]; omega
      unfold lEnds
      rw [ok.hh z hp, ok.gg z hg]; rfl)
    clear hz ok h
    go_enter Tryd.func32, Tryd.ntmps32
    go_wp2_with fail
    refine hc.out.mono ?_
    rintro e w1 ⟨rfl, rfl⟩
    go_wp2_with fail
    go_ret
    exact ⟨ret_int HE.out, rfl⟩
/-- What the home of a zone says of a desk. -/
theorem home_hp {k : Nat} (hk : k < d.home.length) : (zoneOf d k).1 = d.me ↔ d.hp k = true := by
  show d.home.getD k 0 = d.me ↔ _
  simp only [LDk.hp, decide_eq_true_eq, Int.toNat_natCast]
  constructor
  · intro h; exact ⟨by omega, by omega, h⟩
  · intro h; exact h.2.2
theorem home_gp {k : Nat} (hk : k < d.home.length) : d.hp k = false ↔ d.gp k = true := by
  simp only [LDk.hp, LDk.gp, decide_eq_true_eq, decide_eq_false_iff_not, Int.toNat_natCast]
  constructor
  · intro h; refine ⟨by omega, by omega, fun e => h ⟨by omega, by omega, e⟩⟩
  · intro h h2; exact h.2.2 h2.2.2
set_option maxRecDepth 100000 in
set_option maxHeartbeats 800000 in
theorem rholds_any (h : RLd w base b v d) (ok : d.Ok) {z now : Int} (hn : -4398046511104 ≤ now ∧ now ≤ 4398046511104) : Calls Tryd.prog 30 #[.pointer (some ⟨b, 0, none⟩), .int .i64 z, .int .i64 now] w fun e w' => e = .returned (.bool (lHolds d z now)) ∧ Below w.heap.size w w' := by
  by_cases hz : 0 ≤ z ∧ z < d.home.length
  · have hc := hid (there_yes h hz.1 hz.2)
    obtain ⟨k, rfl⟩ : ∃ k : Nat, z = k := ⟨z.toNat, by omega⟩
    have hk : k < d.home.length := by omega
    obtain ⟨A, c, rfl⟩ := h.form
    obtain ⟨d0, d1⟩ := h.at_
    obtain ⟨g, rfl, g1, g2, g3, -, z0, z1, z2, z3, z4, z5, z6, fz⟩ := h.zone hk
    have HE := hid (show (zoneOf d k).2.1 = lEnds d k from rfl)
    have hk2 : (k : Int) < d.home.length := by omega
    have h1 := home_hp hk
    have h2 := home_gp hk
    have n3 : wrap64 (now + 2) = now + 2 := wrap64_in _ (by omega)
    generalize (zoneOf d k).2.1 = x1 at *
    generalize (zoneOf d k).1 = x0 at *
    have BD := hid (show w.drew.cell? ⟨b, 0, none⟩ = some (.int .i64 d.me) ∧ w.drew.cell? ⟨b, 1, none⟩ = some (.slice (some ⟨g, 0, none⟩) d.home.length c) ∧ w.drew.cell? ⟨g, k * 7, none⟩ = some (.int .i64 x0) ∧ w.drew.cell? ⟨g, k * 7 + 1, none⟩ = some (.int .i64 x1) from ⟨d0, d1, z0, z1⟩)
    have BB := hid (show Below w.heap.size w w.drew by (repeat (first | exact Below.refl _ _ | assumption | refine below_drewN ?_ _ | refine Below.drew ?_ | refine Below.alloc ?_ (by (try simp); (try omega)) _ | refine Below.setCell ?_ (by (try simp); (try omega)) _)))
    clear hz z2 z3 z4 z5 z6 h z0 z1 d0 d1
    cases hp : d.hp k with
    | true =>
      have e0 := h1.2 hp
      subst e0
      have HR := hid (show lHolds d k now = decide (x1 ≤ now) by
        unfold lHolds
        rw [hp, HE.out, lEnds, ok.gg k (by cases hg : d.gp k with
          | false => rfl
          | true => rw [h2.2 hg] at hp; cases hp)]; simp)
      clear h1 h2 ok hp hn
      go_enter Tryd.func30, Tryd.ntmps30
      go_wp2_with fail
      refine hc.out.mono ?_
      rintro e w1 ⟨rfl, rfl⟩
      go_upto_region 3 with fail
      have HSF := hid (fun (wq : World) (hq : wq.cell? ⟨b, 0, none⟩ = some (.int .i64 d.me) ∧ wq.cell? ⟨b, 1, none⟩ = some (.slice (some ⟨g, 0, none⟩) d.home.length c) ∧ wq.cell? ⟨g, k * 7, none⟩ = some (.int .i64 d.me) ∧ wq.cell? ⟨g, k * 7 + 1, none⟩ = some (.int .i64 x1)) => hq)
      refine wpIn_wide.1 (wpIn_region_S (n := 0) (fun wq => wq.cell? ⟨b, 0, none⟩ = some (.int .i64 d.me) ∧ wq.cell? ⟨b, 1, none⟩ = some (.slice (some ⟨g, 0, none⟩) d.home.length c) ∧ wq.cell? ⟨g, k * 7, none⟩ = some (.int .i64 d.me) ∧ wq.cell? ⟨g, k * 7 + 1, none⟩ = some (.int .i64 x1)) [] (by kernel_rfl) BD.out (fun hHeld => ?_))
      generalize w.drew = wd at *
      refine wpAnyS_pure 0 (v := ?_) (fun _ => trivial) (by simp only [List.getElem?_toArray, List.getElem?_cons_succ, List.getElem?_cons_zero]; rfl) (by kernel_rfl) (fun _ _ _ _ _ h => h) ⟨rfl, (by intro c h; cases h), ?_⟩ hHeld ?_
      rotate_left
      focus (intro wS hSw; (try replace hSw := HSF.out wS hSw); (try dsimp only at hSw); go_simp; (try with_reducible rfl))
      (try simp only [Act.put, List.setIfInBounds_toArray, List.set_cons_zero, List.set_cons_succ])
      refine wpAnyS_pure 1 (v := ?_) (fun _ => trivial) (by simp only [List.getElem?_toArray, List.getElem?_cons_succ, List.getElem?_cons_zero]; rfl) (by kernel_rfl) (fun _ _ _ _ _ h => h) ⟨rfl, (by intro c h; cases h), ?_⟩ hHeld ?_
      rotate_left
      focus (intro wS hSw; (try replace hSw := HSF.out wS hSw); (try dsimp only at hSw); go_simp; (try with_reducible rfl))
      (try simp only [Act.put, List.setIfInBounds_toArray, List.set_cons_zero, List.set_cons_succ])
      refine wpAnyS_pure 2 (v := ?_) (fun _ => trivial) (by simp only [List.getElem?_toArray, List.getElem?_cons_succ, List.getElem?_cons_zero]; rfl) (by kernel_rfl) (fun _ _ _ _ _ h => h) ⟨rfl, (by intro c h; cases h), ?_⟩ hHeld ?_
      rotate_left
      focus (intro wS hSw; (try replace hSw := HSF.out wS hSw); (try dsimp only at hSw); go_simp; (try with_reducible rfl))
      (try simp only [Act.put, List.setIfInBounds_toArray, List.set_cons_zero, List.set_cons_succ])
      refine wpAnyS_take 3 (v := ?_) (fun _ => trivial) (by simp only [List.getElem?_toArray, List.getElem?_cons_succ, List.getElem?_cons_zero]; rfl) (by kernel_rfl) (fun _ _ _ _ _ h => h) ⟨rfl, (by intro c h; cases h), ?_⟩ hHeld ?_
      rotate_left
      focus (intro wS hSw; (try replace hSw := HSF.out wS hSw); (try dsimp only at hSw); go_simp; (try with_reducible rfl))
      (try simp only [Act.put, List.setIfInBounds_toArray, List.set_cons_zero, List.set_cons_succ])
      refine wpAnyS_pure 4 (v := ?_) (fun _ => trivial) (by simp only [List.getElem?_toArray, List.getElem?_cons_succ, List.getElem?_cons_zero]; rfl) (by kernel_rfl) (fun _ _ _ _ _ h => h) ⟨rfl, (by intro c h; cases h), ?_⟩ hHeld ?_
      rotate_left
      focus (intro wS hSw; (try replace hSw := HSF.out wS hSw); (try dsimp only at hSw); go_simp; (try with_reducible rfl))
      (try simp only [Act.put, List.setIfInBounds_toArray, List.set_cons_zero, List.set_cons_succ])
      refine wpAnyS_pure 5 (v := ?_) (fun _ => trivial) (by simp only [List.getElem?_toArray, List.getElem?_cons_succ, List.getElem?_cons_zero]; rfl) (by kernel_rfl) (fun _ _ _ _ _ h => h) ⟨rfl, (by intro c h; cases h), ?_⟩ hHeld ?_
      rotate_left
      focus (intro wS hSw; (try replace hSw := HSF.out wS hSw); (try dsimp only at hSw); go_simp; (try with_reducible rfl))
      (try simp only [Act.put, List.setIfInBounds_toArray, List.set_cons_zero, List.set_cons_succ])
      refine wpAnyS_pure 6 (v := ?_) (fun _ => trivial) (by simp only [List.getElem?_toArray, List.getElem?_cons_succ, List.getElem?_cons_zero]; rfl) (by kernel_rfl) (fun _ _ _ _ _ h => h) ⟨rfl, (by intro c h; cases h), ?_⟩ hHeld ?_
      rotate_left
      focus (intro wS hSw; (try replace hSw := HSF.out wS hSw); (try dsimp only at hSw); go_simp; (try with_reducible rfl))
      (try simp only [Act.put, List.setIfInBounds_toArray, List.set_cons_zero, List.set_cons_succ])
      refine wpAnyS_take 7 (v := ?_) (fun _ => trivial) (by simp only [List.getElem?_toArray, List.getElem?_cons_succ, List.getElem?_cons_zero]; rfl) (by kernel_rfl) (fun _ _ _ _ _ h => h) ⟨rfl, (by intro c h; cases h), ?_⟩ hHeld ?_
      rotate_left
      focus (intro wS hSw; (try replace hSw := HSF.out wS hSw); (try dsimp only at hSw); go_simp; (try with_reducible rfl))
      (try simp only [Act.put, List.setIfInBounds_toArray, List.set_cons_zero, List.set_cons_succ])
      refine wpAnyS_pure 8 (v := ?_) (fun _ => trivial) (by simp only [List.getElem?_toArray, List.getElem?_cons_succ, List.getElem?_cons_zero]; rfl) (by kernel_rfl) (fun _ _ _ _ _ h => h) ⟨rfl, (by intro c h; cases h), ?_⟩ hHeld ?_
      rotate_left
      focus (intro wS hSw; (try replace hSw := HSF.out wS hSw); (try dsimp only at hSw); go_simp; (try with_reducible rfl))
      (try simp only [Act.put, List.setIfInBounds_toArray, List.set_cons_zero, List.set_cons_succ])
      refine wpAnyS_pure 9 (v := ?_) (fun _ => trivial) (by simp only [List.getElem?_toArray, List.getElem?_cons_succ, List.getElem?_cons_zero]; rfl) (by kernel_rfl) (fun _ _ _ _ _ h => h) ⟨rfl, (by intro c h; cases h), ?_⟩ hHeld ?_
      rotate_left
      focus (intro wS hSw; (try replace hSw := HSF.out wS hSw); (try dsimp only at hSw); go_simp; (try with_reducible rfl))
      (try simp only [Act.put, List.setIfInBounds_toArray, List.set_cons_zero, List.set_cons_succ])
      refine wpAnyS_pure 10 (v := ?_) (fun _ => trivial) (by simp only [List.getElem?_toArray, List.getElem?_cons_succ, List.getElem?_cons_zero]; rfl) (by kernel_rfl) (fun _ _ _ _ _ h => h) ⟨rfl, (by intro c h; cases h), ?_⟩ hHeld ?_
      rotate_left
      focus (intro wS hSw; (try replace hSw := HSF.out wS hSw); (try dsimp only at hSw); go_simp; (try with_reducible rfl))
      (try simp only [Act.put, List.setIfInBounds_toArray, List.set_cons_zero, List.set_cons_succ])
      refine wpAnyS_take 11 (v := ?_) (fun _ => trivial) (by simp only [List.getElem?_toArray, List.getElem?_cons_succ, List.getElem?_cons_zero]; rfl) (by kernel_rfl) (fun _ _ _ _ _ h => h) ⟨rfl, (by intro c h; cases h), ?_⟩ hHeld ?_
      rotate_left
      focus (intro wS hSw; (try replace hSw := HSF.out wS hSw); (try dsimp only at hSw); go_simp; (try with_reducible rfl))
      (try simp only [Act.put, List.setIfInBounds_toArray, List.set_cons_zero, List.set_cons_succ])
      refine wpAnyS_pure 12 (v := ?_) (fun _ => trivial) (by simp only [List.getElem?_toArray, List.getElem?_cons_succ, List.getElem?_cons_zero]; rfl) (by kernel_rfl) (fun _ _ _ _ _ h => h) ⟨rfl, (by intro c h; cases h), ?_⟩ hHeld ?_
      rotate_left
      focus (intro wS hSw; (try replace hSw := HSF.out wS hSw); (try dsimp only at hSw); go_simp; (try with_reducible rfl))
      (try simp only [Act.put, List.setIfInBounds_toArray, List.set_cons_zero, List.set_cons_succ])
      refine wpAnyS_done (by kernel_rfl) ?_
      obtain ⟨d0, d1, z0, z1⟩ := BD.out
      clear hHeld HSF BD
      go_wp2_with fail
      go_ret
      exact ⟨ret_bool HR.out.symm, BB.out⟩
    | false =>
      have e0 : x0 ≠ d.me := fun e => by rw [h1.1 e] at hp; cases hp
      have HR := hid (show lHolds d k now = decide (now + 2 < x1) by
        unfold lHolds
        rw [hp, HE.out, lEnds, ok.hh k hp, h2.1 hp]; simp)
      clear h1 h2 ok hp hn
      go_enter Tryd.func30, Tryd.ntmps30
      go_wp2_with fail
      refine hc.out.mono ?_
      rintro e w1 ⟨rfl, rfl⟩
      go_upto_region 3 with fail
      have HSF := hid (fun (wq : World) (hq : wq.cell? ⟨b, 0, none⟩ = some (.int .i64 d.me) ∧ wq.cell? ⟨b, 1, none⟩ = some (.slice (some ⟨g, 0, none⟩) d.home.length c) ∧ wq.cell? ⟨g, k * 7, none⟩ = some (.int .i64 x0) ∧ wq.cell? ⟨g, k * 7 + 1, none⟩ = some (.int .i64 x1)) => hq)
      refine wpIn_wide.1 (wpIn_region_S (n := 0) (fun wq => wq.cell? ⟨b, 0, none⟩ = some (.int .i64 d.me) ∧ wq.cell? ⟨b, 1, none⟩ = some (.slice (some ⟨g, 0, none⟩) d.home.length c) ∧ wq.cell? ⟨g, k * 7, none⟩ = some (.int .i64 x0) ∧ wq.cell? ⟨g, k * 7 + 1, none⟩ = some (.int .i64 x1)) [] (by kernel_rfl) BD.out (fun hHeld => ?_))
      generalize w.drew = wd at *
      refine wpAnyS_pure 0 (v := ?_) (fun _ => trivial) (by simp only [List.getElem?_toArray, List.getElem?_cons_succ, List.getElem?_cons_zero]; rfl) (by kernel_rfl) (fun _ _ _ _ _ h => h) ⟨rfl, (by intro c h; cases h), ?_⟩ hHeld ?_
      rotate_left
      focus (intro wS hSw; (try replace hSw := HSF.out wS hSw); (try dsimp only at hSw); go_simp; (try with_reducible rfl))
      (try simp only [Act.put, List.setIfInBounds_toArray, List.set_cons_zero, List.set_cons_succ])
      refine wpAnyS_pure 1 (v := ?_) (fun _ => trivial) (by simp only [List.getElem?_toArray, List.getElem?_cons_succ, List.getElem?_cons_zero]; rfl) (by kernel_rfl) (fun _ _ _ _ _ h => h) ⟨rfl, (by intro c h; cases h), ?_⟩ hHeld ?_
      rotate_left
      focus (intro wS hSw; (try replace hSw := HSF.out wS hSw); (try dsimp only at hSw); go_simp; (try with_reducible rfl))
      (try simp only [Act.put, List.setIfInBounds_toArray, List.set_cons_zero, List.set_cons_succ])
      refine wpAnyS_pure 2 (v := ?_) (fun _ => trivial) (by simp only [List.getElem?_toArray, List.getElem?_cons_succ, List.getElem?_cons_zero]; rfl) (by kernel_rfl) (fun _ _ _ _ _ h => h) ⟨rfl, (by intro c h; cases h), ?_⟩ hHeld ?_
      rotate_left
      focus (intro wS hSw; (try replace hSw := HSF.out wS hSw); (try dsimp only at hSw); go_simp; (try with_reducible rfl))
      (try simp only [Act.put, List.setIfInBounds_toArray, List.set_cons_zero, List.set_cons_succ])
      refine wpAnyS_take 3 (v := ?_) (fun _ => trivial) (by simp only [List.getElem?_toArray, List.getElem?_cons_succ, List.getElem?_cons_zero]; rfl) (by kernel_rfl) (fun _ _ _ _ _ h => h) ⟨rfl, (by intro c h; cases h), ?_⟩ hHeld ?_
      rotate_left
      focus (intro wS hSw; (try replace hSw := HSF.out wS hSw); (try dsimp only at hSw); go_simp; (try with_reducible rfl))
      (try simp only [Act.put, List.setIfInBounds_toArray, List.set_cons_zero, List.set_cons_succ])
      refine wpAnyS_pure 4 (v := ?_) (fun _ => trivial) (by simp only [List.getElem?_toArray, List.getElem?_cons_succ, List.getElem?_cons_zero]; rfl) (by kernel_rfl) (fun _ _ _ _ _ h => h) ⟨rfl, (by intro c h; cases h), ?_⟩ hHeld ?_
      rotate_left
      focus (intro wS hSw; (try replace hSw := HSF.out wS hSw); (try dsimp only at hSw); go_simp; (try with_reducible rfl))
      (try simp only [Act.put, List.setIfInBounds_toArray, List.set_cons_zero, List.set_cons_succ])
      refine wpAnyS_pure 5 (v := ?_) (fun _ => trivial) (by simp only [List.getElem?_toArray, List.getElem?_cons_succ, List.getElem?_cons_zero]; rfl) (by kernel_rfl) (fun _ _ _ _ _ h => h) ⟨rfl, (by intro c h; cases h), ?_⟩ hHeld ?_
      rotate_left
      focus (intro wS hSw; (try replace hSw := HSF.out wS hSw); (try dsimp only at hSw); go_simp; (try with_reducible rfl))
      (try simp only [Act.put, List.setIfInBounds_toArray, List.set_cons_zero, List.set_cons_succ])
      refine wpAnyS_pure 6 (v := ?_) (fun _ => trivial) (by simp only [List.getElem?_toArray, List.getElem?_cons_succ, List.getElem?_cons_zero]; rfl) (by kernel_rfl) (fun _ _ _ _ _ h => h) ⟨rfl, (by intro c h; cases h), ?_⟩ hHeld ?_
      rotate_left
      focus (intro wS hSw; (try replace hSw := HSF.out wS hSw); (try dsimp only at hSw); go_simp; (try with_reducible rfl))
      (try simp only [Act.put, List.setIfInBounds_toArray, List.set_cons_zero, List.set_cons_succ])
      refine wpAnyS_take 7 (v := ?_) (fun _ => trivial) (by simp only [List.getElem?_toArray, List.getElem?_cons_succ, List.getElem?_cons_zero]; rfl) (by kernel_rfl) (fun _ _ _ _ _ h => h) ⟨rfl, (by intro c h; cases h), ?_⟩ hHeld ?_
      rotate_left
      focus (intro wS hSw; (try replace hSw := HSF.out wS hSw); (try dsimp only at hSw); go_simp; (try with_reducible rfl))
      (try simp only [Act.put, List.setIfInBounds_toArray, List.set_cons_zero, List.set_cons_succ])
      refine wpAnyS_pure 8 (v := ?_) (fun _ => trivial) (by simp only [List.getElem?_toArray, List.getElem?_cons_succ, List.getElem?_cons_zero]; rfl) (by kernel_rfl) (fun _ _ _ _ _ h => h) ⟨rfl, (by intro c h; cases h), ?_⟩ hHeld ?_
      rotate_left
      focus (intro wS hSw; (try replace hSw := HSF.out wS hSw); (try dsimp only at hSw); go_simp; (try with_reducible rfl))
      (try simp only [Act.put, List.setIfInBounds_toArray, List.set_cons_zero, List.set_cons_succ])
      refine wpAnyS_pure 9 (v := ?_) (fun _ => trivial) (by simp only [List.getElem?_toArray, List.getElem?_cons_succ, List.getElem?_cons_zero]; rfl) (by kernel_rfl) (fun _ _ _ _ _ h => h) ⟨rfl, (by intro c h; cases h), ?_⟩ hHeld ?_
      rotate_left
      focus (intro wS hSw; (try replace hSw := HSF.out wS hSw); (try dsimp only at hSw); go_simp; (try with_reducible rfl))
      (try simp only [Act.put, List.setIfInBounds_toArray, List.set_cons_zero, List.set_cons_succ])
      refine wpAnyS_pure 10 (v := ?_) (fun _ => trivial) (by simp only [List.getElem?_toArray, List.getElem?_cons_succ, List.getElem?_cons_zero]; rfl) (by kernel_rfl) (fun _ _ _ _ _ h => h) ⟨rfl, (by intro c h; cases h), ?_⟩ hHeld ?_
      rotate_left
      focus (intro wS hSw; (try replace hSw := HSF.out wS hSw); (try dsimp only at hSw); go_simp; (try with_reducible rfl))
      (try simp only [Act.put, List.setIfInBounds_toArray, List.set_cons_zero, List.set_cons_succ])
      refine wpAnyS_take 11 (v := ?_) (fun _ => trivial) (by simp only [List.getElem?_toArray, List.getElem?_cons_succ, List.getElem?_cons_zero]; rfl) (by kernel_rfl) (fun _ _ _ _ _ h => h) ⟨rfl, (by intro c h; cases h), ?_⟩ hHeld ?_
      rotate_left
      focus (intro wS hSw; (try replace hSw := HSF.out wS hSw); (try dsimp only at hSw); go_simp; (try with_reducible rfl))
      (try simp only [Act.put, List.setIfInBounds_toArray, List.set_cons_zero, List.set_cons_succ])
      refine wpAnyS_pure 12 (v := ?_) (fun _ => trivial) (by simp only [List.getElem?_toArray, List.getElem?_cons_succ, List.getElem?_cons_zero]; rfl) (by kernel_rfl) (fun _ _ _ _ _ h => h) ⟨rfl, (by intro c h; cases h), ?_⟩ hHeld ?_
      rotate_left
      focus (intro wS hSw; (try replace hSw := HSF.out wS hSw); (try dsimp only at hSw); go_simp; (try with_reducible rfl))
      (try simp only [Act.put, List.setIfInBounds_toArray, List.set_cons_zero, List.set_cons_succ])
      refine wpAnyS_done (by kernel_rfl) ?_
      obtain ⟨d0, d1, z0, z1⟩ := BD.out
      clear hHeld HSF BD
      go_wp2_with fail
      go_ret
      exact ⟨ret_bool HR.out.symm, BB.out⟩
  · have hc := hid (there_no h hz)
    have HE := hid (show lHolds d z now = false by
      have hp : d.hp z = false := by simp only [LDk.hp, decide_eq_false_iff_not]; omega
      have hg : d.gp z = false := by simp only [LDk.gp, decide_eq_false_iff_not]; omega
      unfold lHolds
      rw [hp, hg]; rfl)
    clear hz ok h hn
    go_enter Tryd.func30, Tryd.ntmps30
    go_wp2_with fail
    refine hc.out.mono ?_
    rintro e w1 ⟨rfl, rfl⟩
    go_wp2_with fail
    go_ret
    exact ⟨ret_bool HE.out.symm, by (repeat (first | exact Below.refl _ _ | assumption | refine below_drewN ?_ _ | refine Below.drew ?_ | refine Below.alloc ?_ (by (try simp); (try omega)) _ | refine Below.setCell ?_ (by (try simp); (try omega)) _))⟩
end
end Go.Proofs.YtappgjdnfllblaaDoor
