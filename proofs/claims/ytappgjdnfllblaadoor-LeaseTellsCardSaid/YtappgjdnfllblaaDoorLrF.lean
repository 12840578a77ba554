
/- Lease: the reference's Ask, Give, Back. -/
import Derived.Test.YtappgjdnfllblaaDoorLrC
import Derived.Deep.MidRow
import Derived.Deep.WholeRow
set_option linter.unusedSimpArgs false
set_option linter.unusedVariables false
namespace Go.Proofs.YtappgjdnfllblaaDoor
open Go.RowKit Go.IntWalk Go.Maps Go.WideMaps
theorem zonesL_set {d d' : LDk} {k : Nat} (hh : d'.home = d.home) (hk : k < d.home.length) (hne : ∀ j : Nat, j ≠ k → zoneOf d' j = zoneOf d j) : zonesL d' = (zonesL d).set k (zoneOf d' k) := by
  apply List.ext_getElem
  · simp [zonesL_len, hh]
  · intro j h1 h2
    rw [zonesL_at _ h1]
    by_cases e : j = k
    · subst e; rw [List.getElem_set_self]
    · rw [List.getElem_set_ne (fun e' => e e'.symm), zonesL_at _ (by simpa using h2), hne j e]
theorem zoneOf_setG {d : LDk} {k : Nat} {x : Gu} (j : Nat) (hj : j ≠ k) : zoneOf (d.setG k x) j = zoneOf d j := by
  have e3 : (d.setG k x).gs j = d.gs j := by show (if (j : Int) = (k : Int) then x else d.gs j) = _; rw [if_neg (by omega)]
  have e2 : (d.setG k x).hs j = d.hs j := rfl
  unfold zoneOf lEnds
  rw [e2, e3]; rfl
theorem zoneOf_setH {d : LDk} {k : Nat} {x : Ho} (j : Nat) (hj : j ≠ k) : zoneOf (d.setH k x) j = zoneOf d j := by
  have e2 : (d.setH k x).hs j = d.hs j := by show (if (j : Int) = (k : Int) then x else d.hs j) = _; rw [if_neg (by omega)]
  have e3 : (d.setH k x).gs j = d.gs j := rfl
  unfold zoneOf lEnds
  rw [e2, e3]; rfl
theorem zoneG {d : LDk} (ok : d.Ok) {k : Nat} (hp : d.hp k = false) (x : Gu) : zoneOf (d.setG k x) k = (d.home.getD k 0, x.1, 0, false, x.2.1, x.2.2.1, x.2.2.2) := by
  have e3 : (d.setG k x).gs k = x := by show (if (k : Int) = (k : Int) then x else d.gs k) = _; rw [if_pos rfl]
  have e2 : (d.setG k x).hs k = (0, 0, false) := ok.hh k hp
  unfold zoneOf lEnds
  rw [e2, e3]
  simp [LDk.setG]
theorem zoneH {d : LDk} (ok : d.Ok) {k : Nat} (hp : d.gp k = false) (x : Ho) : zoneOf (d.setH k x) k = (d.home.getD k 0, x.1, x.2.1, x.2.2, 0, 0, 0) := by
  have e2 : (d.setH k x).hs k = x := by show (if (k : Int) = (k : Int) then x else d.hs k) = _; rw [if_pos rfl]
  have e3 : (d.setH k x).gs k = (0, 0, 0, 0) := ok.gg k hp
  unfold zoneOf lEnds
  rw [e2, e3]
  simp [LDk.setH]
theorem zoneOf_g {d : LDk} (ok : d.Ok) {k : Nat} (hp : d.hp k = false) : zoneOf d k = (d.home.getD k 0, (d.gs k).1, 0, false, (d.gs k).2.1, (d.gs k).2.2.1, (d.gs k).2.2.2) := by
  have e2 : d.hs k = (0, 0, false) := ok.hh k hp
  unfold zoneOf lEnds
  rw [e2]
  simp
theorem zoneOf_h {d : LDk} (ok : d.Ok) {k : Nat} (hp : d.gp k = false) : zoneOf d k = (d.home.getD k 0, (d.hs k).1, (d.hs k).2.1, (d.hs k).2.2, 0, 0, 0) := by
  have e3 : d.gs k = (0, 0, 0, 0) := ok.gg k hp
  unfold zoneOf lEnds
  rw [e3]
  simp
/-- A reference's call: what it returns; what the desk knows then; its row has changed. -/
def RLRes (w : World) (base b : Nat) (v : Value) (x : Value) (d : LDk) (e : Ending) (w' : World) : Prop :=
  e = .returned x ∧ RLd w' base b v d ∧ w.grownBy w' v.ownBlock
section
variable {w w' W : World} {base b gn g n c : Nat} {v : Value} {d d' : LDk} {cs : Array Value}
theorem RLd.note (h : RLd W base b v d) (N : Blk W gn 26 cs) (hg : W.grownBy w' (some gn)) : RLd w' base b v d :=
  h.grown hg (.inr (own_blk_ne h.r N (by decide))) (fun e => by injection e with e; exact Blk.ne_ h.k N (by decide) e)
theorem RLd.put (h : RLd W base b (.slice (some ⟨g, 0, none⟩) n c) d) {k : Nat} {z : Zn} (hO : znRK.Own w' base (.slice (some ⟨g, 0, none⟩) n c) ((zonesL d).set k z)) (hg : W.grownBy w' (some g)) (hgb : g ≠ b) (hz : zonesL d' = (zonesL d).set k z) (hm : d'.me = d.me) : RLd w' base b (.slice (some ⟨g, 0, none⟩) n c) d' :=
  ⟨by rw [hm]; exact h.k.grown hg (fun e => by injection e with e; exact hgb e.symm), by rw [hz]; exact hO, h.ba⟩
/-- The result's box is written, and returned. -/
theorem note4 (N : Blk W gn 26 cs) (hs : cs.size = 4) (x0 x1 x2 x3 : Value) :
    Blk ((((W.setCell ⟨gn, 0, none⟩ x0).setCell ⟨gn, 1, none⟩ x1).setCell ⟨gn, 2, none⟩ x2).setCell ⟨gn, 3, none⟩ x3) gn 26 #[x0, x1, x2, x3] ∧ W.grownBy ((((W.setCell ⟨gn, 0, none⟩ x0).setCell ⟨gn, 1, none⟩ x1).setCell ⟨gn, 2, none⟩ x2).setCell ⟨gn, 3, none⟩ x3) (some gn) := by
  refine ⟨?_, gr_tr (gr_tr (gr_tr (gr_set W gn _ _) (gr_set _ gn _ _)) (gr_set _ gn _ _)) (gr_set _ gn _ _)⟩
  have h := (((N.set_ 0 x0).set_ 1 x1).set_ 2 x2).set_ 3 x3
  have e : (((cs.setIfInBounds 0 x0).setIfInBounds 1 x1).setIfInBounds 2 x2).setIfInBounds 3 x3 = #[x0, x1, x2, x3] := by
    match cs, hs with
    | ⟨[a, b, c, d]⟩, _ => rfl
  rw [e] at h
  exact h
/-- What lies behind a store into the row. -/
theorem zn_at {w : World} {base g n c k : Nat} {l : List Zn} {z : Zn} (hO : znRK.Own w base (.slice (some ⟨g, 0, none⟩) n c) (l.set k z)) (hk : k < l.length) : w.cell? ⟨g, k * 7 + 6, none⟩ = some (.int .i64 z.2.2.2.2.2.2) ∧ (∀ o, w.frozen? ⟨g, o, none⟩ = false) ∧ g < w.heap.size := by
  obtain ⟨h1, h2, h3, h4⟩ := RK.Own.at_ (R := znRK) hO (k := k) (by simpa using hk)
  rw [List.getElem_set_self] at h3
  exact ⟨h3 6 (by decide), h4, h1⟩
/-- While a call is under way: the desk, the result's box, the zone's box. -/
structure GS (w0 w : World) (base b g n c gn q : Nat) (d : LDk) (x : Zn) : Prop where
  R : RLd w base b (.slice (some ⟨g, 0, none⟩) n c) d
  N : Blk w gn 26 #[.int .i64 0, .int .i64 0, .int .i64 0, .int .i64 0]
  X : Blk w q 90 (znRK.cs x).toArray
  B : Below w0.heap.size w0 w
  qg : g ≠ q
  hn : w0.heap.size ≤ gn
  hq : w0.heap.size ≤ q
section
variable {w0 : World} {q : Nat} {x y : Zn}
theorem GS.below (h : GS w0 w base b g n c gn q d x) (hb : Below w.heap.size w w') : GS w0 w' base b g n c gn q d x :=
  ⟨h.R.below hb, h.N.below hb h.N.lt, h.X.below hb h.X.lt, h.B.trans (hb.mono h.B.size), h.qg, h.hn, h.hq⟩
theorem GS.st (h : GS w0 w base b g n c gn q d x) (j : Nat) (u : Value) (hx : (znRK.cs x).toArray.setIfInBounds j u = (znRK.cs y).toArray) : GS w0 (w.setCell ⟨q, j, none⟩ u) base b g n c gn q d y :=
  ⟨h.R.grown (gr_set w q j u) (.inr (by intro e; injection e with e; exact h.qg e)) (fun e => by injection e with e; exact Blk.ne_ h.R.k h.X (by decide) e),
    h.N.far (p := ⟨q, j, none⟩) (fun e => Blk.ne_ h.N h.X (by decide) e) u, by rw [← hx]; exact h.X.set_ j u, h.B.setCell (p := ⟨q, j, none⟩) h.hq u, h.qg, h.hn, h.hq⟩
theorem GS.xs (h : GS w0 w base b g n c gn q d x) : w.cell? ⟨q, 0, none⟩ = some (.int .i64 x.1) ∧ w.cell? ⟨q, 1, none⟩ = some (.int .i64 x.2.1) ∧ w.cell? ⟨q, 2, none⟩ = some (.int .i64 x.2.2.1) ∧ w.cell? ⟨q, 3, none⟩ = some (.bool x.2.2.2.1) ∧ w.cell? ⟨q, 4, none⟩ = some (.int .i64 x.2.2.2.2.1) ∧ w.cell? ⟨q, 5, none⟩ = some (.int .i64 x.2.2.2.2.2.1) ∧ w.cell? ⟨q, 6, none⟩ = some (.int .i64 x.2.2.2.2.2.2) ∧ (∀ o, w.frozen? ⟨q, o, none⟩ = false) ∧ q < w.heap.size :=
  ⟨h.X.cell 0, h.X.cell 1, h.X.cell 2, h.X.cell 3, h.X.cell 4, h.X.cell 5, h.X.cell 6, h.X.frozen, h.X.lt⟩
end
set_option maxRecDepth 100000 in
set_option maxHeartbeats 2000000 in
theorem rask_any (h : RLd w base b v d) (ok : d.Ok) {z : Int} : Calls Tryd.prog 22 #[.pointer (some ⟨b, 0, none⟩), .int .i64 z] w (RLRes w base b v (.tuple #[noteV (askF d z).1.1, .int .i64 (askF d z).1.2]) (askF d z).2) := by
  by_cases hz : 0 ≤ z ∧ z < d.home.length
  case neg =>
    have e : askF d z = ((zeroN, 4), d) := by
      have hl : lAs d z false = 4 := by unfold lAs; rw [if_pos (by omega)]
      unfold askF
      rw [if_neg (by rw [hl]; decide), hl]
    rw [e]
    clear ok e
    go_enter Tryd.func22, Tryd.ntmps22
    go_upto_region 1 with fail
    have NZ := hid (Blk.new w 26 #[.int .i64 0, .int .i64 0, .int .i64 0, .int .i64 0])
    have B1 := hid (show Below w.heap.size w (w.alloc (Obj.cells #[.int .i64 0, .int .i64 0, .int .i64 0, .int .i64 0] 26)) by (repeat (first | exact Below.refl _ _ | assumption | refine below_drewN ?_ _ | refine Below.drew ?_ | refine Below.alloc ?_ (by (try simp); (try omega)) _ | refine Below.setCell ?_ (by (try simp); (try omega)) _)))
    generalize (w.alloc (Obj.cells #[.int .i64 0, .int .i64 0, .int .i64 0, .int .i64 0] 26)) = w1 at *
    obtain ⟨gn, hgn⟩ : ∃ gn, gn = w.heap.size := ⟨_, rfl⟩
    rw [← hgn] at NZ ⊢
    have HGN := hid (Nat.le_of_eq hgn.symm)
    clear hgn
    have R1 := hid (h.below B1.out)
    have TH := hid (there_no R1.out hz)
    clear hz
    go_wp2_with fail
    refine TH.out.mono ?_
    rintro e wa ⟨rfl, rfl⟩
    clear TH h
    have x0 := NZ.out.cell 0; have x1 := NZ.out.cell 1; have x2 := NZ.out.cell 2; have x3 := NZ.out.cell 3; have fz := NZ.out.frozen; have lt0 := NZ.out.lt
    simp at x0 x1 x2 x3
    go_wp2_with fail
    obtain ⟨hN, hG⟩ := note4 NZ.out rfl (.int .i64 (0)) (.int .i64 (0)) (.int .i64 (0)) (.int .i64 (0))
    have N4 := hid hN
    have G4 := hid hG
    clear hN hG x0 x1 x2 x3 fz lt0
    generalize ((((w1.setCell ⟨gn, 0, none⟩ (.int .i64 (0))).setCell ⟨gn, 1, none⟩ (.int .i64 (0))).setCell ⟨gn, 2, none⟩ (.int .i64 (0))).setCell ⟨gn, 3, none⟩ (.int .i64 (0))) = wz at *
    refine bodyPost_ret (lres_row Tryd.results22 _ _ gn 26 #[.int .i64 (0), .int .i64 (0), .int .i64 (0), .int .i64 (0)] (0, 0) _ rfl N4.out Tryd.underlying26 rfl (by kernel_rfl)) rfl ?_
    exact ⟨rfl, R1.out.note NZ.out G4.out, gr_far (gr_below B1.out _) G4.out HGN.out⟩
  obtain ⟨k, rfl⟩ : ∃ k : Nat, z = k := ⟨z.toNat, by omega⟩
  have hk : k < d.home.length := by omega
  obtain ⟨A, cc, rfl⟩ := h.form
  have hk2 : (k : Int) < d.home.length := by omega
  by_cases hm : (zoneOf d k).1 = d.me
  · have hl : lAs d (k : Int) false = 7 := by
      unfold lAs
      rw [if_neg (by omega)]
      have hm' : d.home.getD (k : Int).toNat 0 = d.me := hm
      simp only [decide_eq_true hm', ne_eq] <;> rfl
    have e : askF d (k : Int) = ((zeroN, 7), d) := by
      unfold askF
      rw [hl]; rfl
    rw [e]
    clear hl e ok
    go_enter Tryd.func22, Tryd.ntmps22
    go_upto_region 1 with fail
    have NZ := hid (Blk.new w 26 #[.int .i64 0, .int .i64 0, .int .i64 0, .int .i64 0])
    have B1 := hid (show Below w.heap.size w (w.alloc (Obj.cells #[.int .i64 0, .int .i64 0, .int .i64 0, .int .i64 0] 26)) by (repeat (first | exact Below.refl _ _ | assumption | refine below_drewN ?_ _ | refine Below.drew ?_ | refine Below.alloc ?_ (by (try simp); (try omega)) _ | refine Below.setCell ?_ (by (try simp); (try omega)) _)))
    generalize (w.alloc (Obj.cells #[.int .i64 0, .int .i64 0, .int .i64 0, .int .i64 0] 26)) = w1 at *
    obtain ⟨gn, hgn⟩ : ∃ gn, gn = w.heap.size := ⟨_, rfl⟩
    rw [← hgn] at NZ ⊢
    have HGN := hid (Nat.le_of_eq hgn.symm)
    clear hgn
    have R1 := hid (h.below B1.out)
    have TH := hid (there_yes R1.out hz.1 hz.2)
    obtain ⟨d0, d1⟩ := R1.out.at_
    obtain ⟨g, rfl, g1, g2, g3, -, z0, z1, z2, z3, z4, z5, z6, fzz⟩ := R1.out.zone hk
    rw [hm] at z0
    clear hz h hm
    go_wp2_with fail
    refine TH.out.mono ?_
    rintro e wa ⟨rfl, rfl⟩
    clear TH
    go_upto_region 3 with fail
    have BD := hid (And.intro (show w1.drew.cell? ⟨b, 0, none⟩ = some (.int .i64 d.me) from d0) (And.intro (show w1.drew.cell? ⟨b, 1, none⟩ = some (.slice (some ⟨g, 0, none⟩) d.home.length cc) from d1) (show w1.drew.cell? ⟨g, k * 7, none⟩ = some (.int .i64 d.me) from z0)))
    have HSF := hid (fun (wq : World) (hq : wq.cell? ⟨b, 0, none⟩ = some (.int .i64 d.me) ∧ wq.cell? ⟨b, 1, none⟩ = some (.slice (some ⟨g, 0, none⟩) d.home.length cc) ∧ wq.cell? ⟨g, k * 7, none⟩ = some (.int .i64 d.me)) => hq)
    have BD2 := hid (show Below w1.heap.size w1 w1.drew by (repeat (first | exact Below.refl _ _ | assumption | refine below_drewN ?_ _ | refine Below.drew ?_ | refine Below.alloc ?_ (by (try simp); (try omega)) _ | refine Below.setCell ?_ (by (try simp); (try omega)) _)))
    have N2 := hid (NZ.out.below BD2.out NZ.out.lt)
    have R2 := hid (R1.out.below BD2.out)
    have B2 := hid (B1.out.trans (BD2.out.mono B1.out.size))
    clear d0 d1 z0 z1 z2 z3 z4 z5 z6 fzz g1 g2 NZ R1 B1 BD2
    refine wpIn_wide.1 (wpIn_region_S (n := 0) (fun wq => wq.cell? ⟨b, 0, none⟩ = some (.int .i64 d.me) ∧ wq.cell? ⟨b, 1, none⟩ = some (.slice (some ⟨g, 0, none⟩) d.home.length cc) ∧ wq.cell? ⟨g, k * 7, none⟩ = some (.int .i64 d.me)) [] (by kernel_rfl) BD.out (fun hHeld => ?_))
    generalize w1.drew = w2 at *
    refine wpAnyS_pure 0 (v := ?_) (fun _ => trivial) (by simp only [List.getElem?_toArray, List.getElem?_cons_succ, List.getElem?_cons_zero]; rfl) (by kernel_rfl) (fun _ _ _ _ _ h => h) ⟨rfl, (by intro c h; cases h), ?_⟩ hHeld ?_
    rotate_left
    focus (intro wS hSw; (try replace hSw := HSF.out wS hSw); (try dsimp only at hSw); go_simp; (try with_reducible rfl))
    (try simp only [Act.put, List.setIfInBounds_toArray, List.set_cons_zero, List.set_cons_succ])
    refine wpAnyS_pure 1 (v := ?_) (fun _ => trivial) (by simp only [List.getElem?_toArray, List.getElem?_cons_succ, List.getElem?_cons_zero]; rfl) (by kernel_rfl) (fun _ _ _ _ _ h => h) ⟨rfl, (by intro c h; cases h), ?_⟩ hHeld ?_
    rotate_left
    focus (intro wS hSw; (try replace hSw := HSF.out wS hSw); (try dsimp only at hSw); go_simp; (try with_reducible rfl))
    (try simp only [Act.put, List.setIfInBounds_toArray, List.set_cons_zero, List.set_cons_succ])
    refine wpAnyS_pure 2 (v := ?_) (fun _ => trivial) (by simp only [List.getElem?_toArray, List.getElem?_cons_succ, List.getElem?_cons_zero]; rfl) (by kernel_rfl) (fun _ _ _ _ _ h => h) ⟨rfl, (by intro c h; cases h), ?_⟩ hHeld ?_
    rotate_left
    focus (intro wS hSw; (try replace hSw := HSF.out wS hSw); (try dsimp only at hSw); go_simp; (try with_reducible rfl))
    (try simp only [Act.put, List.setIfInBounds_toArray, List.set_cons_zero, List.set_cons_succ])
    refine wpAnyS_take 3 (v := ?_) (fun _ => trivial) (by simp only [List.getElem?_toArray, List.getElem?_cons_succ, List.getElem?_cons_zero]; rfl) (by kernel_rfl) (fun _ _ _ _ _ h => h) ⟨rfl, (by intro c h; cases h), ?_⟩ hHeld ?_
    rotate_left
    focus (intro wS hSw; (try replace hSw := HSF.out wS hSw); (try dsimp only at hSw); go_simp; (try with_reducible rfl))
    (try simp only [Act.put, List.setIfInBounds_toArray, List.set_cons_zero, List.set_cons_succ])
    refine wpAnyS_pure 4 (v := ?_) (fun _ => trivial) (by simp only [List.getElem?_toArray, List.getElem?_cons_succ, List.getElem?_cons_zero]; rfl) (by kernel_rfl) (fun _ _ _ _ _ h => h) ⟨rfl, (by intro c h; cases h), ?_⟩ hHeld ?_
    rotate_left
    focus (intro wS hSw; (try replace hSw := HSF.out wS hSw); (try dsimp only at hSw); go_simp; (try with_reducible rfl))
    (try simp only [Act.put, List.setIfInBounds_toArray, List.set_cons_zero, List.set_cons_succ])
    refine wpAnyS_pure 5 (v := ?_) (fun _ => trivial) (by simp only [List.getElem?_toArray, List.getElem?_cons_succ, List.getElem?_cons_zero]; rfl) (by kernel_rfl) (fun _ _ _ _ _ h => h) ⟨rfl, (by intro c h; cases h), ?_⟩ hHeld ?_
    rotate_left
    focus (intro wS hSw; (try replace hSw := HSF.out wS hSw); (try dsimp only at hSw); go_simp; (try with_reducible rfl))
    (try simp only [Act.put, List.setIfInBounds_toArray, List.set_cons_zero, List.set_cons_succ])
    refine wpAnyS_pure 6 (v := ?_) (fun _ => trivial) (by simp only [List.getElem?_toArray, List.getElem?_cons_succ, List.getElem?_cons_zero]; rfl) (by kernel_rfl) (fun _ _ _ _ _ h => h) ⟨rfl, (by intro c h; cases h), ?_⟩ hHeld ?_
    rotate_left
    focus (intro wS hSw; (try replace hSw := HSF.out wS hSw); (try dsimp only at hSw); go_simp; (try with_reducible rfl))
    (try simp only [Act.put, List.setIfInBounds_toArray, List.set_cons_zero, List.set_cons_succ])
    refine wpAnyS_take 7 (v := ?_) (fun _ => trivial) (by simp only [List.getElem?_toArray, List.getElem?_cons_succ, List.getElem?_cons_zero]; rfl) (by kernel_rfl) (fun _ _ _ _ _ h => h) ⟨rfl, (by intro c h; cases h), ?_⟩ hHeld ?_
    rotate_left
    focus (intro wS hSw; (try replace hSw := HSF.out wS hSw); (try dsimp only at hSw); go_simp; (try with_reducible rfl))
    (try simp only [Act.put, List.setIfInBounds_toArray, List.set_cons_zero, List.set_cons_succ])
    refine wpAnyS_pure 8 (v := ?_) (fun _ => trivial) (by simp only [List.getElem?_toArray, List.getElem?_cons_succ, List.getElem?_cons_zero]; rfl) (by kernel_rfl) (fun _ _ _ _ _ h => h) ⟨rfl, (by intro c h; cases h), ?_⟩ hHeld ?_
    rotate_left
    focus (intro wS hSw; (try replace hSw := HSF.out wS hSw); (try dsimp only at hSw); go_simp; (try with_reducible rfl))
    (try simp only [Act.put, List.setIfInBounds_toArray, List.set_cons_zero, List.set_cons_succ])
    refine wpAnyS_pure 9 (v := ?_) (fun _ => trivial) (by simp only [List.getElem?_toArray, List.getElem?_cons_succ, List.getElem?_cons_zero]; rfl) (by kernel_rfl) (fun _ _ _ _ _ h => h) ⟨rfl, (by intro c h; cases h), ?_⟩ hHeld ?_
    rotate_left
    focus (intro wS hSw; (try replace hSw := HSF.out wS hSw); (try dsimp only at hSw); go_simp; (try with_reducible rfl))
    (try simp only [Act.put, List.setIfInBounds_toArray, List.set_cons_zero, List.set_cons_succ])
    refine wpAnyS_pure 10 (v := ?_) (fun _ => trivial) (by simp only [List.getElem?_toArray, List.getElem?_cons_succ, List.getElem?_cons_zero]; rfl) (by kernel_rfl) (fun _ _ _ _ _ h => h) ⟨rfl, (by intro c h; cases h), ?_⟩ hHeld ?_
    rotate_left
    focus (intro wS hSw; (try replace hSw := HSF.out wS hSw); (try dsimp only at hSw); go_simp; (try with_reducible rfl))
    (try simp only [Act.put, List.setIfInBounds_toArray, List.set_cons_zero, List.set_cons_succ])
    refine wpAnyS_take 11 (v := ?_) (fun _ => trivial) (by simp only [List.getElem?_toArray, List.getElem?_cons_succ, List.getElem?_cons_zero]; rfl) (by kernel_rfl) (fun _ _ _ _ _ h => h) ⟨rfl, (by intro c h; cases h), ?_⟩ hHeld ?_
    rotate_left
    focus (intro wS hSw; (try replace hSw := HSF.out wS hSw); (try dsimp only at hSw); go_simp; (try with_reducible rfl))
    (try simp only [Act.put, List.setIfInBounds_toArray, List.set_cons_zero, List.set_cons_succ])
    refine wpAnyS_pure 12 (v := ?_) (fun _ => trivial) (by simp only [List.getElem?_toArray, List.getElem?_cons_succ, List.getElem?_cons_zero]; rfl) (by kernel_rfl) (fun _ _ _ _ _ h => h) ⟨rfl, (by intro c h; cases h), ?_⟩ hHeld ?_
    rotate_left
    focus (intro wS hSw; (try replace hSw := HSF.out wS hSw); (try dsimp only at hSw); go_simp; (try with_reducible rfl))
    (try simp only [Act.put, List.setIfInBounds_toArray, List.set_cons_zero, List.set_cons_succ])
    refine wpAnyS_done (by kernel_rfl) ?_
    clear hHeld HSF BD
    have x0 := N2.out.cell 0; have x1 := N2.out.cell 1; have x2 := N2.out.cell 2; have x3 := N2.out.cell 3; have fz := N2.out.frozen; have lt0 := N2.out.lt
    simp at x0 x1 x2 x3
    go_wp2_with fail
    obtain ⟨hN, hG⟩ := note4 N2.out rfl (.int .i64 (0)) (.int .i64 (0)) (.int .i64 (0)) (.int .i64 (0))
    have N4 := hid hN
    have G4 := hid hG
    clear hN hG x0 x1 x2 x3 fz lt0
    generalize ((((w2.setCell ⟨gn, 0, none⟩ (.int .i64 (0))).setCell ⟨gn, 1, none⟩ (.int .i64 (0))).setCell ⟨gn, 2, none⟩ (.int .i64 (0))).setCell ⟨gn, 3, none⟩ (.int .i64 (0))) = wz at *
    refine bodyPost_ret (lres_row Tryd.results22 _ _ gn 26 #[.int .i64 (0), .int .i64 (0), .int .i64 (0), .int .i64 (0)] (0, 0) _ rfl N4.out Tryd.underlying26 rfl (by kernel_rfl)) rfl ?_
    exact ⟨rfl, R2.out.note N2.out G4.out, gr_far (gr_below B2.out _) G4.out HGN.out⟩
  · have hl : lAs d (k : Int) false = 0 := by
      unfold lAs
      rw [if_neg (by omega)]
      have hm' : ¬ d.home.getD (k : Int).toNat 0 = d.me := hm
      simp only [decide_eq_false hm', ne_eq] <;> rfl
    have hp : d.hp k = false := by
      cases hq : d.hp k with
      | false => rfl
      | true => exact absurd ((home_hp hk).2 hq) hm
    have e : askF d (k : Int) = (((0, (k : Int), 0, (d.gs k).2.2.2 + 1), 0), d.setG k (askG (d.gs k))) := by
      unfold askF
      rw [hl]; rfl
    have hz6 : (zoneOf d k).2.2.2.2.2.2 = (d.gs k).2.2.2 := rfl
    have HZ := hid (show zonesL (d.setG k (askG (d.gs k))) = (zonesL d).set k ((zoneOf d k).1, (zoneOf d k).2.1, (zoneOf d k).2.2.1, (zoneOf d k).2.2.2.1, (zoneOf d k).2.2.2.2.1, (zoneOf d k).2.2.2.2.2.1, (d.gs k).2.2.2 + 1) by
      rw [zonesL_set (d := d) (d' := d.setG k (askG (d.gs k))) rfl hk (fun j hj => zoneOf_setG j hj), zoneG ok hp, zoneOf_g ok hp]; rfl)
    have HME := hid (show (d.setG k (askG (d.gs k))).me = d.me from rfl)
    have hgb := (ok.gb k).2.2.2
    have hwr : wrap64 ((d.gs k).2.2.2 + 1) = (d.gs k).2.2.2 + 1 := wrap64_in _ (by omega)
    rw [e]
    clear hl e ok hp hgb
    generalize d.setG k (askG (d.gs k)) = d' at *
    go_enter Tryd.func22, Tryd.ntmps22
    go_upto_region 1 with fail
    have NZ := hid (Blk.new w 26 #[.int .i64 0, .int .i64 0, .int .i64 0, .int .i64 0])
    have B1 := hid (show Below w.heap.size w (w.alloc (Obj.cells #[.int .i64 0, .int .i64 0, .int .i64 0, .int .i64 0] 26)) by (repeat (first | exact Below.refl _ _ | assumption | refine below_drewN ?_ _ | refine Below.drew ?_ | refine Below.alloc ?_ (by (try simp); (try omega)) _ | refine Below.setCell ?_ (by (try simp); (try omega)) _)))
    generalize (w.alloc (Obj.cells #[.int .i64 0, .int .i64 0, .int .i64 0, .int .i64 0] 26)) = w1 at *
    obtain ⟨gn, hgn⟩ : ∃ gn, gn = w.heap.size := ⟨_, rfl⟩
    rw [← hgn] at NZ ⊢
    have HGN := hid (Nat.le_of_eq hgn.symm)
    clear hgn
    have R1 := hid (h.below B1.out)
    have TH := hid (there_yes R1.out hz.1 hz.2)
    obtain ⟨d0, d1⟩ := R1.out.at_
    obtain ⟨g, rfl, g1, g2, g3, -, z0, z1, z2, z3, z4, z5, z6, fzz⟩ := R1.out.zone hk
    have hxm : ((zoneOf d k).1 == d.me) = false := by simpa using hm
    have HXN := hid (show (zoneOf d k).1 ≠ d.me from hm)
    have HZ6 := hid hz6
    generalize (d.gs k).2.2.2 = asv at *
    have hx : ∃ hx, hx = (zoneOf d k).1 := ⟨_, rfl⟩
    obtain ⟨hx, hxe⟩ := hx
    rw [← hxe] at z0 hxm HXN
    clear hz h hm hz6 hxe
    have G3 := hid g3
    go_wp2_with fail
    refine TH.out.mono ?_
    rintro e wa ⟨rfl, rfl⟩
    clear TH
    go_upto_region 3 with fail
    have BD := hid (And.intro (show w1.drew.cell? ⟨b, 0, none⟩ = some (.int .i64 d.me) from d0) (And.intro (show w1.drew.cell? ⟨b, 1, none⟩ = some (.slice (some ⟨g, 0, none⟩) d.home.length cc) from d1) (show w1.drew.cell? ⟨g, k * 7, none⟩ = some (.int .i64 hx) from z0)))
    have HSF := hid (fun (wq : World) (hq : wq.cell? ⟨b, 0, none⟩ = some (.int .i64 d.me) ∧ wq.cell? ⟨b, 1, none⟩ = some (.slice (some ⟨g, 0, none⟩) d.home.length cc) ∧ wq.cell? ⟨g, k * 7, none⟩ = some (.int .i64 hx)) => hq)
    have BD2 := hid (show Below w1.heap.size w1 w1.drew by (repeat (first | exact Below.refl _ _ | assumption | refine below_drewN ?_ _ | refine Below.drew ?_ | refine Below.alloc ?_ (by (try simp); (try omega)) _ | refine Below.setCell ?_ (by (try simp); (try omega)) _)))
    have N2 := hid (NZ.out.below BD2.out NZ.out.lt)
    have R2 := hid (R1.out.below BD2.out)
    have B2 := hid (B1.out.trans (BD2.out.mono B1.out.size))
    clear g3 d0 d1 z0 z1 z2 z3 z4 z5 z6 fzz g1 g2 NZ R1 B1 BD2
    refine wpIn_wide.1 (wpIn_region_S (n := 0) (fun wq => wq.cell? ⟨b, 0, none⟩ = some (.int .i64 d.me) ∧ wq.cell? ⟨b, 1, none⟩ = some (.slice (some ⟨g, 0, none⟩) d.home.length cc) ∧ wq.cell? ⟨g, k * 7, none⟩ = some (.int .i64 hx)) [] (by kernel_rfl) BD.out (fun hHeld => ?_))
    generalize w1.drew = w2 at *
    refine wpAnyS_pure 0 (v := ?_) (fun _ => trivial) (by simp only [List.getElem?_toArray, List.getElem?_cons_succ, List.getElem?_cons_zero]; rfl) (by kernel_rfl) (fun _ _ _ _ _ h => h) ⟨rfl, (by intro c h; cases h), ?_⟩ hHeld ?_
    rotate_left
    focus (intro wS hSw; (try replace hSw := HSF.out wS hSw); (try dsimp only at hSw); go_simp; (try with_reducible rfl))
    (try simp only [Act.put, List.setIfInBounds_toArray, List.set_cons_zero, List.set_cons_succ])
    refine wpAnyS_pure 1 (v := ?_) (fun _ => trivial) (by simp only [List.getElem?_toArray, List.getElem?_cons_succ, List.getElem?_cons_zero]; rfl) (by kernel_rfl) (fun _ _ _ _ _ h => h) ⟨rfl, (by intro c h; cases h), ?_⟩ hHeld ?_
    rotate_left
    focus (intro wS hSw; (try replace hSw := HSF.out wS hSw); (try dsimp only at hSw); go_simp; (try with_reducible rfl))
    (try simp only [Act.put, List.setIfInBounds_toArray, List.set_cons_zero, List.set_cons_succ])
    refine wpAnyS_pure 2 (v := ?_) (fun _ => trivial) (by simp only [List.getElem?_toArray, List.getElem?_cons_succ, List.getElem?_cons_zero]; rfl) (by kernel_rfl) (fun _ _ _ _ _ h => h) ⟨rfl, (by intro c h; cases h), ?_⟩ hHeld ?_
    rotate_left
    focus (intro wS hSw; (try replace hSw := HSF.out wS hSw); (try dsimp only at hSw); go_simp; (try with_reducible rfl))
    (try simp only [Act.put, List.setIfInBounds_toArray, List.set_cons_zero, List.set_cons_succ])
    refine wpAnyS_take 3 (v := ?_) (fun _ => trivial) (by simp only [List.getElem?_toArray, List.getElem?_cons_succ, List.getElem?_cons_zero]; rfl) (by kernel_rfl) (fun _ _ _ _ _ h => h) ⟨rfl, (by intro c h; cases h), ?_⟩ hHeld ?_
    rotate_left
    focus (intro wS hSw; (try replace hSw := HSF.out wS hSw); (try dsimp only at hSw); go_simp; (try with_reducible rfl))
    (try simp only [Act.put, List.setIfInBounds_toArray, List.set_cons_zero, List.set_cons_succ])
    refine wpAnyS_pure 4 (v := ?_) (fun _ => trivial) (by simp only [List.getElem?_toArray, List.getElem?_cons_succ, List.getElem?_cons_zero]; rfl) (by kernel_rfl) (fun _ _ _ _ _ h => h) ⟨rfl, (by intro c h; cases h), ?_⟩ hHeld ?_
    rotate_left
    focus (intro wS hSw; (try replace hSw := HSF.out wS hSw); (try dsimp only at hSw); go_simp; (try with_reducible rfl))
    (try simp only [Act.put, List.setIfInBounds_toArray, List.set_cons_zero, List.set_cons_succ])
    refine wpAnyS_pure 5 (v := ?_) (fun _ => trivial) (by simp only [List.getElem?_toArray, List.getElem?_cons_succ, List.getElem?_cons_zero]; rfl) (by kernel_rfl) (fun _ _ _ _ _ h => h) ⟨rfl, (by intro c h; cases h), ?_⟩ hHeld ?_
    rotate_left
    focus (intro wS hSw; (try replace hSw := HSF.out wS hSw); (try dsimp only at hSw); go_simp; (try with_reducible rfl))
    (try simp only [Act.put, List.setIfInBounds_toArray, List.set_cons_zero, List.set_cons_succ])
    refine wpAnyS_pure 6 (v := ?_) (fun _ => trivial) (by simp only [List.getElem?_toArray, List.getElem?_cons_succ, List.getElem?_cons_zero]; rfl) (by kernel_rfl) (fun _ _ _ _ _ h => h) ⟨rfl, (by intro c h; cases h), ?_⟩ hHeld ?_
    rotate_left
    focus (intro wS hSw; (try replace hSw := HSF.out wS hSw); (try dsimp only at hSw); go_simp; (try with_reducible rfl))
    (try simp only [Act.put, List.setIfInBounds_toArray, List.set_cons_zero, List.set_cons_succ])
    refine wpAnyS_take 7 (v := ?_) (fun _ => trivial) (by simp only [List.getElem?_toArray, List.getElem?_cons_succ, List.getElem?_cons_zero]; rfl) (by kernel_rfl) (fun _ _ _ _ _ h => h) ⟨rfl, (by intro c h; cases h), ?_⟩ hHeld ?_
    rotate_left
    focus (intro wS hSw; (try replace hSw := HSF.out wS hSw); (try dsimp only at hSw); go_simp; (try with_reducible rfl))
    (try simp only [Act.put, List.setIfInBounds_toArray, List.set_cons_zero, List.set_cons_succ])
    refine wpAnyS_pure 8 (v := ?_) (fun _ => trivial) (by simp only [List.getElem?_toArray, List.getElem?_cons_succ, List.getElem?_cons_zero]; rfl) (by kernel_rfl) (fun _ _ _ _ _ h => h) ⟨rfl, (by intro c h; cases h), ?_⟩ hHeld ?_
    rotate_left
    focus (intro wS hSw; (try replace hSw := HSF.out wS hSw); (try dsimp only at hSw); go_simp; (try with_reducible rfl))
    (try simp only [Act.put, List.setIfInBounds_toArray, List.set_cons_zero, List.set_cons_succ])
    refine wpAnyS_pure 9 (v := ?_) (fun _ => trivial) (by simp only [List.getElem?_toArray, List.getElem?_cons_succ, List.getElem?_cons_zero]; rfl) (by kernel_rfl) (fun _ _ _ _ _ h => h) ⟨rfl, (by intro c h; cases h), ?_⟩ hHeld ?_
    rotate_left
    focus (intro wS hSw; (try replace hSw := HSF.out wS hSw); (try dsimp only at hSw); go_simp; (try with_reducible rfl))
    (try simp only [Act.put, List.setIfInBounds_toArray, List.set_cons_zero, List.set_cons_succ])
    refine wpAnyS_pure 10 (v := ?_) (fun _ => trivial) (by simp only [List.getElem?_toArray, List.getElem?_cons_succ, List.getElem?_cons_zero]; rfl) (by kernel_rfl) (fun _ _ _ _ _ h => h) ⟨rfl, (by intro c h; cases h), ?_⟩ hHeld ?_
    rotate_left
    focus (intro wS hSw; (try replace hSw := HSF.out wS hSw); (try dsimp only at hSw); go_simp; (try with_reducible rfl))
    (try simp only [Act.put, List.setIfInBounds_toArray, List.set_cons_zero, List.set_cons_succ])
    refine wpAnyS_take 11 (v := ?_) (fun _ => trivial) (by simp only [List.getElem?_toArray, List.getElem?_cons_succ, List.getElem?_cons_zero]; rfl) (by kernel_rfl) (fun _ _ _ _ _ h => h) ⟨rfl, (by intro c h; cases h), ?_⟩ hHeld ?_
    rotate_left
    focus (intro wS hSw; (try replace hSw := HSF.out wS hSw); (try dsimp only at hSw); go_simp; (try with_reducible rfl))
    (try simp only [Act.put, List.setIfInBounds_toArray, List.set_cons_zero, List.set_cons_succ])
    refine wpAnyS_pure 12 (v := ?_) (fun _ => trivial) (by simp only [List.getElem?_toArray, List.getElem?_cons_succ, List.getElem?_cons_zero]; rfl) (by kernel_rfl) (fun _ _ _ _ _ h => h) ⟨rfl, (by intro c h; cases h), ?_⟩ hHeld ?_
    rotate_left
    focus (intro wS hSw; (try replace hSw := HSF.out wS hSw); (try dsimp only at hSw); go_simp; (try with_reducible rfl))
    (try simp only [Act.put, List.setIfInBounds_toArray, List.set_cons_zero, List.set_cons_succ])
    refine wpAnyS_done (by kernel_rfl) ?_
    clear hHeld HSF BD
    obtain ⟨e0, e1⟩ := R2.out.at_
    obtain ⟨g', hg', g1, g2, -, -, -, -, -, -, -, -, z6, fzz⟩ := R2.out.zone hk
    injection hg' with hg'
    injection hg' with hg'
    subst hg'
    rw [HZ6.out] at z6
    have hxm2 : hx ≠ d.me := HXN.out
    go_upto_region 6 with fail
    have hkl := hid (show k < (zonesL d).length by rw [zonesL_len]; exact hk)
    have O3 := hid (show znRK.Own (w2.setCell ⟨g, k * 7 + 6, none⟩ (.int .i64 (asv + 1))) base (.slice (some ⟨g, 0, none⟩) d.home.length cc) ((zonesL d).set k ((zoneOf d k).1, (zoneOf d k).2.1, (zoneOf d k).2.2.1, (zoneOf d k).2.2.2.1, (zoneOf d k).2.2.2.2.1, (zoneOf d k).2.2.2.2.2.1, asv + 1)) from
      RK.Own.set_ (R := znRK) R2.out.r hkl.out (j := 6) (by decide) (by rw [zonesL_at]; rfl))
    have GR := hid (gr_set w2 g (k * 7 + 6) (.int .i64 (asv + 1)))
    have R3 := hid (R2.out.put O3.out GR.out G3.out HZ.out HME.out)
    have N3 := hid (N2.out.far (p := ⟨g, k * 7 + 6, none⟩) (fun e => own_blk_ne R2.out.r N2.out (by decide) (by rw [e]; rfl)) (.int .i64 (asv + 1)))
    have R3at := R3.out.at_
    obtain ⟨f0, f1⟩ := R3at
    obtain ⟨z6n, fzn, ltn⟩ := zn_at O3.out hkl.out
    simp only at z6n
    have GB := hid (gr_tr (gr_below B2.out (some g)) GR.out)
    clear e0 e1 z6 fzz g1 g2 R2 N2 B2 GR
    generalize w2.setCell ⟨g, k * 7 + 6, none⟩ (.int .i64 (asv + 1)) = w3 at *
    have x0 := N3.out.cell 0; have x1 := N3.out.cell 1; have x2 := N3.out.cell 2; have x3 := N3.out.cell 3; have fz := N3.out.frozen; have lt0 := N3.out.lt
    simp at x0 x1 x2 x3
    go_wp2_with fail
    obtain ⟨hN, hG⟩ := note4 N3.out rfl (.int .i64 (0)) (.int .i64 (k : Int)) (.int .i64 (0)) (.int .i64 (asv + 1))
    have N4 := hid hN
    have G4 := hid hG
    clear hN hG x0 x1 x2 x3 fz lt0
    generalize ((((w3.setCell ⟨gn, 0, none⟩ (.int .i64 (0))).setCell ⟨gn, 1, none⟩ (.int .i64 (k : Int))).setCell ⟨gn, 2, none⟩ (.int .i64 (0))).setCell ⟨gn, 3, none⟩ (.int .i64 (asv + 1))) = wz at *
    refine bodyPost_ret (lres_row Tryd.results22 _ _ gn 26 #[.int .i64 (0), .int .i64 (k : Int), .int .i64 (0), .int .i64 (asv + 1)] (0, 0) _ rfl N4.out Tryd.underlying26 rfl (by kernel_rfl)) rfl ?_
    exact ⟨rfl, R3.out.note N3.out G4.out, gr_far GB.out G4.out HGN.out⟩
set_option maxRecDepth 100000 in
set_option maxHeartbeats 4000000 in
theorem rgive_any (h : RLd w base b v d) (ok : d.Ok) {z unt now : Int} (hn : -4398046511104 ≤ now ∧ now ≤ 4398046511104) : Calls Tryd.prog 23 #[.pointer (some ⟨b, 0, none⟩), .int .i64 z, .int .i64 unt, .int .i64 now] w (RLRes w base b v (.tuple #[noteV (giveF d z unt now).1.1, .int .i64 (giveF d z unt now).1.2]) (giveF d z unt now).2) := by
  have hw1 : wrap64 (now + 1000) = now + 1000 := wrap64_in _ (by omega)
  clear hn
  by_cases hz : 0 ≤ z ∧ z < d.home.length
  case neg =>
    have e : giveF d z unt now = ((zeroN, 4), d) := by
      have hl : lAs d z true = 4 := by unfold lAs; rw [if_pos (by omega)]
      unfold giveF
      rw [if_neg (by rw [hl]; decide), hl]
    rw [e]
    clear ok e hw1
    go_enter Tryd.func23, Tryd.ntmps23
    go_upto_region 1 with fail
    have NZ := hid (Blk.new w 26 #[.int .i64 0, .int .i64 0, .int .i64 0, .int .i64 0])
    have B1 := hid (show Below w.heap.size w (w.alloc (Obj.cells #[.int .i64 0, .int .i64 0, .int .i64 0, .int .i64 0] 26)) by (repeat (first | exact Below.refl _ _ | assumption | refine below_drewN ?_ _ | refine Below.drew ?_ | refine Below.alloc ?_ (by (try simp); (try omega)) _ | refine Below.setCell ?_ (by (try simp); (try omega)) _)))
    generalize (w.alloc (Obj.cells #[.int .i64 0, .int .i64 0, .int .i64 0, .int .i64 0] 26)) = w1 at *
    obtain ⟨gn, hgn⟩ : ∃ gn, gn = w.heap.size := ⟨_, rfl⟩
    rw [← hgn] at NZ ⊢
    have HGN := hid (Nat.le_of_eq hgn.symm)
    clear hgn
    have R1 := hid (h.below B1.out)
    have TH := hid (there_no R1.out hz)
    clear hz
    go_wp2_with fail
    refine TH.out.mono ?_
    rintro e wa ⟨rfl, rfl⟩
    clear TH h
    have x0 := NZ.out.cell 0; have x1 := NZ.out.cell 1; have x2 := NZ.out.cell 2; have x3 := NZ.out.cell 3; have fz := NZ.out.frozen; have lt0 := NZ.out.lt
    simp at x0 x1 x2 x3
    go_wp2_with fail
    obtain ⟨hN, hG⟩ := note4 NZ.out rfl (.int .i64 (0)) (.int .i64 (0)) (.int .i64 (0)) (.int .i64 (0))
    have N4 := hid hN
    have G4 := hid hG
    clear hN hG x0 x1 x2 x3 fz lt0
    generalize ((((w1.setCell ⟨gn, 0, none⟩ (.int .i64 (0))).setCell ⟨gn, 1, none⟩ (.int .i64 (0))).setCell ⟨gn, 2, none⟩ (.int .i64 (0))).setCell ⟨gn, 3, none⟩ (.int .i64 (0))) = wz at *
    refine bodyPost_ret (lres_row Tryd.results23 _ _ gn 26 #[.int .i64 (0), .int .i64 (0), .int .i64 (0), .int .i64 (0)] (0, 0) _ rfl N4.out Tryd.underlying26 rfl (by kernel_rfl)) rfl ?_
    exact ⟨rfl, R1.out.note NZ.out G4.out, gr_far (gr_below B1.out _) G4.out HGN.out⟩
  obtain ⟨k, rfl⟩ : ∃ k : Nat, z = k := ⟨z.toNat, by omega⟩
  have hk : k < d.home.length := by omega
  obtain ⟨A, cc, rfl⟩ := h.form
  have hk2 : (k : Int) < d.home.length := by omega
  by_cases hm : (zoneOf d k).1 = d.me
  case neg =>
    have hl : lAs d (k : Int) true = 7 := by
      unfold lAs
      rw [if_neg (by omega)]
      have hm' : ¬ d.home.getD (k : Int).toNat 0 = d.me := hm
      simp only [decide_eq_false hm', ne_eq] <;> rfl
    have e : giveF d (k : Int) unt now = ((zeroN, 7), d) := by
      unfold giveF
      rw [hl]; rfl
    rw [e]
    clear hl e ok hw1
    go_enter Tryd.func23, Tryd.ntmps23
    go_upto_region 1 with fail
    have NZ := hid (Blk.new w 26 #[.int .i64 0, .int .i64 0, .int .i64 0, .int .i64 0])
    have B1 := hid (show Below w.heap.size w (w.alloc (Obj.cells #[.int .i64 0, .int .i64 0, .int .i64 0, .int .i64 0] 26)) by (repeat (first | exact Below.refl _ _ | assumption | refine below_drewN ?_ _ | refine Below.drew ?_ | refine Below.alloc ?_ (by (try simp); (try omega)) _ | refine Below.setCell ?_ (by (try simp); (try omega)) _)))
    generalize (w.alloc (Obj.cells #[.int .i64 0, .int .i64 0, .int .i64 0, .int .i64 0] 26)) = w1 at *
    obtain ⟨gn, hgn⟩ : ∃ gn, gn = w.heap.size := ⟨_, rfl⟩
    rw [← hgn] at NZ ⊢
    have HGN := hid (Nat.le_of_eq hgn.symm)
    clear hgn
    have R1 := hid (h.below B1.out)
    have TH := hid (there_yes R1.out hz.1 hz.2)
    obtain ⟨d0, d1⟩ := R1.out.at_
    obtain ⟨g, rfl, g1, g2, g3, -, z0, z1, z2, z3, z4, z5, z6, fzz⟩ := R1.out.zone hk
    obtain ⟨zz, hzz⟩ : ∃ zz, zz = zoneOf d k := ⟨_, rfl⟩
    rw [← hzz] at z0 z1 z2 z3 z4 z5 z6
    have HZZ := hid hzz
    clear hzz
    obtain ⟨x0, x1, x2, x3, x4, x5, x6⟩ := zz
    simp only at z0 z1 z2 z3 z4 z5 z6
    have hx0 : x0 ≠ d.me := by have := HZZ.out; rw [← this] at hm; exact hm
    clear hz h hm
    go_wp2_with fail
    refine TH.out.mono ?_
    rintro e wa ⟨rfl, rfl⟩
    clear TH
    have G3 := hid g3
    have GLT := hid g1
    clear g1 g2 g3
    go_upto_region 4 with fail
    have ba : Below w1.heap.size w1 (w1.alloc (Obj.cells #[.int .i64 x0, .int .i64 x1, .int .i64 x2, .bool x3, .int .i64 x4, .int .i64 x5, .int .i64 x6] 90)) := by (repeat (first | exact Below.refl _ _ | assumption | refine below_drewN ?_ _ | refine Below.drew ?_ | refine Below.alloc ?_ (by (try simp); (try omega)) _ | refine Below.setCell ?_ (by (try simp); (try omega)) _))
    have S1 := hid (show GS w (w1.alloc (Obj.cells #[.int .i64 x0, .int .i64 x1, .int .i64 x2, .bool x3, .int .i64 x4, .int .i64 x5, .int .i64 x6] 90)) base b g d.home.length cc gn w1.heap.size d (x0, x1, x2, x3, x4, x5, x6) from
      ⟨R1.out.below ba, NZ.out.below ba NZ.out.lt, Blk.new w1 _ _, B1.out.trans (ba.mono B1.out.size), by have := GLT.out; omega, HGN.out, B1.out.size⟩)
    clear d0 d1 z0 z1 z2 z3 z4 z5 z6 fzz NZ R1 B1 ba GLT
    generalize (w1.alloc (Obj.cells #[.int .i64 x0, .int .i64 x1, .int .i64 x2, .bool x3, .int .i64 x4, .int .i64 x5, .int .i64 x6] 90)) = w2 at *
    generalize w1.heap.size = q at *
    have S2 := hid (S1.out.below (show Below w2.heap.size w2 w2.drew by (repeat (first | exact Below.refl _ _ | assumption | refine below_drewN ?_ _ | refine Below.drew ?_ | refine Below.alloc ?_ (by (try simp); (try omega)) _ | refine Below.setCell ?_ (by (try simp); (try omega)) _))))
    clear S1
    have HSF := hid (fun (wq : World) (hq : wq.cell? ⟨b, 0, none⟩ = some (.int .i64 d.me) ∧ wq.cell? ⟨q, 0, none⟩ = some (.int .i64 x0)) => hq)
    refine wpIn_wide.1 (wpIn_region_S (n := 0) (fun wq => wq.cell? ⟨b, 0, none⟩ = some (.int .i64 d.me) ∧ wq.cell? ⟨q, 0, none⟩ = some (.int .i64 x0)) [] (by kernel_rfl) ⟨S2.out.R.at_.1, S2.out.xs.1⟩ (fun hHeld => ?_))
    generalize w2.drew = w3 at *
    refine wpAnyS_pure 0 (v := ?_) (fun _ => trivial) (by simp only [List.getElem?_toArray, List.getElem?_cons_succ, List.getElem?_cons_zero]; rfl) (by kernel_rfl) (fun _ _ _ _ _ h => h) ⟨rfl, (by intro c h; cases h), ?_⟩ hHeld ?_
    rotate_left
    focus (intro wS hSw; (try replace hSw := HSF.out wS hSw); (try dsimp only at hSw); go_simp; (try with_reducible rfl))
    (try simp only [Act.put, List.setIfInBounds_toArray, List.set_cons_zero, List.set_cons_succ])
    refine wpAnyS_take 1 (v := ?_) (fun _ => trivial) (by simp only [List.getElem?_toArray, List.getElem?_cons_succ, List.getElem?_cons_zero]; rfl) (by kernel_rfl) (fun _ _ _ _ _ h => h) ⟨rfl, (by intro c h; cases h), ?_⟩ hHeld ?_
    rotate_left
    focus (intro wS hSw; (try replace hSw := HSF.out wS hSw); (try dsimp only at hSw); go_simp; (try with_reducible rfl))
    (try simp only [Act.put, List.setIfInBounds_toArray, List.set_cons_zero, List.set_cons_succ])
    refine wpAnyS_pure 2 (v := ?_) (fun _ => trivial) (by simp only [List.getElem?_toArray, List.getElem?_cons_succ, List.getElem?_cons_zero]; rfl) (by kernel_rfl) (fun _ _ _ _ _ h => h) ⟨rfl, (by intro c h; cases h), ?_⟩ hHeld ?_
    rotate_left
    focus (intro wS hSw; (try replace hSw := HSF.out wS hSw); (try dsimp only at hSw); go_simp; (try with_reducible rfl))
    (try simp only [Act.put, List.setIfInBounds_toArray, List.set_cons_zero, List.set_cons_succ])
    refine wpAnyS_pure 3 (v := ?_) (fun _ => trivial) (by simp only [List.getElem?_toArray, List.getElem?_cons_succ, List.getElem?_cons_zero]; rfl) (by kernel_rfl) (fun _ _ _ _ _ h => h) ⟨rfl, (by intro c h; cases h), ?_⟩ hHeld ?_
    rotate_left
    focus (intro wS hSw; (try replace hSw := HSF.out wS hSw); (try dsimp only at hSw); go_simp; (try with_reducible rfl))
    (try simp only [Act.put, List.setIfInBounds_toArray, List.set_cons_zero, List.set_cons_succ])
    refine wpAnyS_pure 4 (v := ?_) (fun _ => trivial) (by simp only [List.getElem?_toArray, List.getElem?_cons_succ, List.getElem?_cons_zero]; rfl) (by kernel_rfl) (fun _ _ _ _ _ h => h) ⟨rfl, (by intro c h; cases h), ?_⟩ hHeld ?_
    rotate_left
    focus (intro wS hSw; (try replace hSw := HSF.out wS hSw); (try dsimp only at hSw); go_simp; (try with_reducible rfl))
    (try simp only [Act.put, List.setIfInBounds_toArray, List.set_cons_zero, List.set_cons_succ])
    refine wpAnyS_take 5 (v := ?_) (fun _ => trivial) (by simp only [List.getElem?_toArray, List.getElem?_cons_succ, List.getElem?_cons_zero]; rfl) (by kernel_rfl) (fun _ _ _ _ _ h => h) ⟨rfl, (by intro c h; cases h), ?_⟩ hHeld ?_
    rotate_left
    focus (intro wS hSw; (try replace hSw := HSF.out wS hSw); (try dsimp only at hSw); go_simp; (try with_reducible rfl))
    (try simp only [Act.put, List.setIfInBounds_toArray, List.set_cons_zero, List.set_cons_succ])
    refine wpAnyS_pure 6 (v := ?_) (fun _ => trivial) (by simp only [List.getElem?_toArray, List.getElem?_cons_succ, List.getElem?_cons_zero]; rfl) (by kernel_rfl) (fun _ _ _ _ _ h => h) ⟨rfl, (by intro c h; cases h), ?_⟩ hHeld ?_
    rotate_left
    focus (intro wS hSw; (try replace hSw := HSF.out wS hSw); (try dsimp only at hSw); go_simp; (try with_reducible rfl))
    (try simp only [Act.put, List.setIfInBounds_toArray, List.set_cons_zero, List.set_cons_succ])
    refine wpAnyS_done (by kernel_rfl) ?_
    clear hHeld HSF
    have NN := hid S2.out.N
    have RR := hid S2.out.R
    have BBx := hid S2.out.B
    clear S2
    have x0 := NN.out.cell 0; have x1 := NN.out.cell 1; have x2 := NN.out.cell 2; have x3 := NN.out.cell 3; have fz := NN.out.frozen; have lt0 := NN.out.lt
    simp at x0 x1 x2 x3
    go_wp2_with fail
    obtain ⟨hN, hG⟩ := note4 NN.out rfl (.int .i64 (0)) (.int .i64 (0)) (.int .i64 (0)) (.int .i64 (0))
    have N4 := hid hN
    have G4 := hid hG
    clear hN hG x0 x1 x2 x3 fz lt0
    generalize ((((w3.setCell ⟨gn, 0, none⟩ (.int .i64 (0))).setCell ⟨gn, 1, none⟩ (.int .i64 (0))).setCell ⟨gn, 2, none⟩ (.int .i64 (0))).setCell ⟨gn, 3, none⟩ (.int .i64 (0))) = wz at *
    refine bodyPost_ret (lres_row Tryd.results23 _ _ gn 26 #[.int .i64 (0), .int .i64 (0), .int .i64 (0), .int .i64 (0)] (0, 0) _ rfl N4.out Tryd.underlying26 rfl (by kernel_rfl)) rfl ?_
    exact ⟨rfl, RR.out.note NN.out G4.out, gr_far (gr_below BBx.out _) G4.out (HGN.out)⟩
  have hl : lAs d (k : Int) true = 0 := by
    unfold lAs
    rw [if_neg (by omega)]
    have hm' : d.home.getD (k : Int).toNat 0 = d.me := hm
    simp only [decide_eq_true hm', ne_eq] <;> rfl
  have hp : d.gp k = false := by
    cases hq : d.gp k with
    | false => rfl
    | true => have h9 := (home_gp hk).2 hq; rw [(home_hp hk).1 hm] at h9; cases h9
  have hzz := zoneOf_h ok hp
  have hhb := ok.hb k
  by_cases h1 : now < unt ∧ unt ≤ now + 1000
  case neg =>
    have e : giveF d (k : Int) unt now = ((zeroN, 3), d) := by
      unfold giveF
      rw [hl, if_pos rfl, if_neg h1]
    rw [e]
    clear hl e ok hp hzz hhb
    go_enter Tryd.func23, Tryd.ntmps23
    go_upto_region 1 with fail
    have NZ := hid (Blk.new w 26 #[.int .i64 0, .int .i64 0, .int .i64 0, .int .i64 0])
    have B1 := hid (show Below w.heap.size w (w.alloc (Obj.cells #[.int .i64 0, .int .i64 0, .int .i64 0, .int .i64 0] 26)) by (repeat (first | exact Below.refl _ _ | assumption | refine below_drewN ?_ _ | refine Below.drew ?_ | refine Below.alloc ?_ (by (try simp); (try omega)) _ | refine Below.setCell ?_ (by (try simp); (try omega)) _)))
    generalize (w.alloc (Obj.cells #[.int .i64 0, .int .i64 0, .int .i64 0, .int .i64 0] 26)) = w1 at *
    obtain ⟨gn, hgn⟩ : ∃ gn, gn = w.heap.size := ⟨_, rfl⟩
    rw [← hgn] at NZ ⊢
    have HGN := hid (Nat.le_of_eq hgn.symm)
    clear hgn
    have R1 := hid (h.below B1.out)
    have TH := hid (there_yes R1.out hz.1 hz.2)
    obtain ⟨d0, d1⟩ := R1.out.at_
    obtain ⟨g, rfl, g1, g2, g3, -, z0, z1, z2, z3, z4, z5, z6, fzz⟩ := R1.out.zone hk
    obtain ⟨zz, hzz⟩ : ∃ zz, zz = zoneOf d k := ⟨_, rfl⟩
    rw [← hzz] at z0 z1 z2 z3 z4 z5 z6
    have HZZ := hid hzz
    clear hzz
    obtain ⟨x0, x1, x2, x3, x4, x5, x6⟩ := zz
    simp only at z0 z1 z2 z3 z4 z5 z6
    have hx0 : x0 = d.me := by have := HZZ.out; rw [← this] at hm; exact hm
    subst hx0
    clear hz h hm
    go_wp2_with fail
    refine TH.out.mono ?_
    rintro e wa ⟨rfl, rfl⟩
    clear TH
    have G3 := hid g3
    have GLT := hid g1
    clear g1 g2 g3
    go_upto_region 4 with fail
    have ba : Below w1.heap.size w1 (w1.alloc (Obj.cells #[.int .i64 d.me, .int .i64 x1, .int .i64 x2, .bool x3, .int .i64 x4, .int .i64 x5, .int .i64 x6] 90)) := by (repeat (first | exact Below.refl _ _ | assumption | refine below_drewN ?_ _ | refine Below.drew ?_ | refine Below.alloc ?_ (by (try simp); (try omega)) _ | refine Below.setCell ?_ (by (try simp); (try omega)) _))
    have S1 := hid (show GS w (w1.alloc (Obj.cells #[.int .i64 d.me, .int .i64 x1, .int .i64 x2, .bool x3, .int .i64 x4, .int .i64 x5, .int .i64 x6] 90)) base b g d.home.length cc gn w1.heap.size d (d.me, x1, x2, x3, x4, x5, x6) from
      ⟨R1.out.below ba, NZ.out.below ba NZ.out.lt, Blk.new w1 _ _, B1.out.trans (ba.mono B1.out.size), by have := GLT.out; omega, HGN.out, B1.out.size⟩)
    clear d0 d1 z0 z1 z2 z3 z4 z5 z6 fzz NZ R1 B1 ba GLT
    generalize (w1.alloc (Obj.cells #[.int .i64 d.me, .int .i64 x1, .int .i64 x2, .bool x3, .int .i64 x4, .int .i64 x5, .int .i64 x6] 90)) = w2 at *
    generalize w1.heap.size = q at *
    have S2 := hid (S1.out.below (show Below w2.heap.size w2 w2.drew by (repeat (first | exact Below.refl _ _ | assumption | refine below_drewN ?_ _ | refine Below.drew ?_ | refine Below.alloc ?_ (by (try simp); (try omega)) _ | refine Below.setCell ?_ (by (try simp); (try omega)) _))))
    clear S1
    have HSF := hid (fun (wq : World) (hq : wq.cell? ⟨b, 0, none⟩ = some (.int .i64 d.me) ∧ wq.cell? ⟨q, 0, none⟩ = some (.int .i64 d.me)) => hq)
    refine wpIn_wide.1 (wpIn_region_S (n := 0) (fun wq => wq.cell? ⟨b, 0, none⟩ = some (.int .i64 d.me) ∧ wq.cell? ⟨q, 0, none⟩ = some (.int .i64 d.me)) [] (by kernel_rfl) ⟨S2.out.R.at_.1, S2.out.xs.1⟩ (fun hHeld => ?_))
    generalize w2.drew = w3 at *
    refine wpAnyS_pure 0 (v := ?_) (fun _ => trivial) (by simp only [List.getElem?_toArray, List.getElem?_cons_succ, List.getElem?_cons_zero]; rfl) (by kernel_rfl) (fun _ _ _ _ _ h => h) ⟨rfl, (by intro c h; cases h), ?_⟩ hHeld ?_
    rotate_left
    focus (intro wS hSw; (try replace hSw := HSF.out wS hSw); (try dsimp only at hSw); go_simp; (try with_reducible rfl))
    (try simp only [Act.put, List.setIfInBounds_toArray, List.set_cons_zero, List.set_cons_succ])
    refine wpAnyS_take 1 (v := ?_) (fun _ => trivial) (by simp only [List.getElem?_toArray, List.getElem?_cons_succ, List.getElem?_cons_zero]; rfl) (by kernel_rfl) (fun _ _ _ _ _ h => h) ⟨rfl, (by intro c h; cases h), ?_⟩ hHeld ?_
    rotate_left
    focus (intro wS hSw; (try replace hSw := HSF.out wS hSw); (try dsimp only at hSw); go_simp; (try with_reducible rfl))
    (try simp only [Act.put, List.setIfInBounds_toArray, List.set_cons_zero, List.set_cons_succ])
    refine wpAnyS_pure 2 (v := ?_) (fun _ => trivial) (by simp only [List.getElem?_toArray, List.getElem?_cons_succ, List.getElem?_cons_zero]; rfl) (by kernel_rfl) (fun _ _ _ _ _ h => h) ⟨rfl, (by intro c h; cases h), ?_⟩ hHeld ?_
    rotate_left
    focus (intro wS hSw; (try replace hSw := HSF.out wS hSw); (try dsimp only at hSw); go_simp; (try with_reducible rfl))
    (try simp only [Act.put, List.setIfInBounds_toArray, List.set_cons_zero, List.set_cons_succ])
    refine wpAnyS_pure 3 (v := ?_) (fun _ => trivial) (by simp only [List.getElem?_toArray, List.getElem?_cons_succ, List.getElem?_cons_zero]; rfl) (by kernel_rfl) (fun _ _ _ _ _ h => h) ⟨rfl, (by intro c h; cases h), ?_⟩ hHeld ?_
    rotate_left
    focus (intro wS hSw; (try replace hSw := HSF.out wS hSw); (try dsimp only at hSw); go_simp; (try with_reducible rfl))
    (try simp only [Act.put, List.setIfInBounds_toArray, List.set_cons_zero, List.set_cons_succ])
    refine wpAnyS_pure 4 (v := ?_) (fun _ => trivial) (by simp only [List.getElem?_toArray, List.getElem?_cons_succ, List.getElem?_cons_zero]; rfl) (by kernel_rfl) (fun _ _ _ _ _ h => h) ⟨rfl, (by intro c h; cases h), ?_⟩ hHeld ?_
    rotate_left
    focus (intro wS hSw; (try replace hSw := HSF.out wS hSw); (try dsimp only at hSw); go_simp; (try with_reducible rfl))
    (try simp only [Act.put, List.setIfInBounds_toArray, List.set_cons_zero, List.set_cons_succ])
    refine wpAnyS_take 5 (v := ?_) (fun _ => trivial) (by simp only [List.getElem?_toArray, List.getElem?_cons_succ, List.getElem?_cons_zero]; rfl) (by kernel_rfl) (fun _ _ _ _ _ h => h) ⟨rfl, (by intro c h; cases h), ?_⟩ hHeld ?_
    rotate_left
    focus (intro wS hSw; (try replace hSw := HSF.out wS hSw); (try dsimp only at hSw); go_simp; (try with_reducible rfl))
    (try simp only [Act.put, List.setIfInBounds_toArray, List.set_cons_zero, List.set_cons_succ])
    refine wpAnyS_pure 6 (v := ?_) (fun _ => trivial) (by simp only [List.getElem?_toArray, List.getElem?_cons_succ, List.getElem?_cons_zero]; rfl) (by kernel_rfl) (fun _ _ _ _ _ h => h) ⟨rfl, (by intro c h; cases h), ?_⟩ hHeld ?_
    rotate_left
    focus (intro wS hSw; (try replace hSw := HSF.out wS hSw); (try dsimp only at hSw); go_simp; (try with_reducible rfl))
    (try simp only [Act.put, List.setIfInBounds_toArray, List.set_cons_zero, List.set_cons_succ])
    refine wpAnyS_done (by kernel_rfl) ?_
    clear hHeld HSF
    by_cases h2 : unt ≤ now
    · clear h1
      have NN := hid S2.out.N
      have RR := hid S2.out.R
      have BBx := hid S2.out.B
      clear S2
      have x0 := NN.out.cell 0; have x1 := NN.out.cell 1; have x2 := NN.out.cell 2; have x3 := NN.out.cell 3; have fz := NN.out.frozen; have lt0 := NN.out.lt
      simp at x0 x1 x2 x3
      go_wp2_with fail
      obtain ⟨hN, hG⟩ := note4 NN.out rfl (.int .i64 (0)) (.int .i64 (0)) (.int .i64 (0)) (.int .i64 (0))
      have N4 := hid hN
      have G4 := hid hG
      clear hN hG x0 x1 x2 x3 fz lt0
      generalize ((((w3.setCell ⟨gn, 0, none⟩ (.int .i64 (0))).setCell ⟨gn, 1, none⟩ (.int .i64 (0))).setCell ⟨gn, 2, none⟩ (.int .i64 (0))).setCell ⟨gn, 3, none⟩ (.int .i64 (0))) = wz at *
      refine bodyPost_ret (lres_row Tryd.results23 _ _ gn 26 #[.int .i64 (0), .int .i64 (0), .int .i64 (0), .int .i64 (0)] (0, 0) _ rfl N4.out Tryd.underlying26 rfl (by kernel_rfl)) rfl ?_
      exact ⟨rfl, RR.out.note NN.out G4.out, gr_far (gr_below BBx.out _) G4.out (HGN.out)⟩
    · have h3 : now + 1000 < unt := by omega
      clear h1
      have NN := hid S2.out.N
      have RR := hid S2.out.R
      have BBx := hid S2.out.B
      clear S2
      have x0 := NN.out.cell 0; have x1 := NN.out.cell 1; have x2 := NN.out.cell 2; have x3 := NN.out.cell 3; have fz := NN.out.frozen; have lt0 := NN.out.lt
      simp at x0 x1 x2 x3
      go_wp2_with fail
      obtain ⟨hN, hG⟩ := note4 NN.out rfl (.int .i64 (0)) (.int .i64 (0)) (.int .i64 (0)) (.int .i64 (0))
      have N4 := hid hN
      have G4 := hid hG
      clear hN hG x0 x1 x2 x3 fz lt0
      generalize ((((w3.setCell ⟨gn, 0, none⟩ (.int .i64 (0))).setCell ⟨gn, 1, none⟩ (.int .i64 (0))).setCell ⟨gn, 2, none⟩ (.int .i64 (0))).setCell ⟨gn, 3, none⟩ (.int .i64 (0))) = wz at *
      refine bodyPost_ret (lres_row Tryd.results23 _ _ gn 26 #[.int .i64 (0), .int .i64 (0), .int .i64 (0), .int .i64 (0)] (0, 0) _ rfl N4.out Tryd.underlying26 rfl (by kernel_rfl)) rfl ?_
      exact ⟨rfl, RR.out.note NN.out G4.out, gr_far (gr_below BBx.out _) G4.out (HGN.out)⟩
  obtain ⟨h1, h2⟩ := h1
  have h1' : ¬ unt ≤ now := by omega
  have h2' : ¬ now + 1000 < unt := by omega
  by_cases h3 : (d.hs k).1 ≤ unt
  case neg =>
    have e : giveF d (k : Int) unt now = ((zeroN, 8), d) := by
      unfold giveF
      rw [hl, if_pos rfl, if_pos ⟨h1, h2⟩, if_neg h3]
    have hz1 : (zoneOf d k).2.1 = (d.hs k).1 := by rw [hzz]
    rw [e]
    clear hl e ok hp hhb hzz
    go_enter Tryd.func23, Tryd.ntmps23
    go_upto_region 1 with fail
    have NZ := hid (Blk.new w 26 #[.int .i64 0, .int .i64 0, .int .i64 0, .int .i64 0])
    have B1 := hid (show Below w.heap.size w (w.alloc (Obj.cells #[.int .i64 0, .int .i64 0, .int .i64 0, .int .i64 0] 26)) by (repeat (first | exact Below.refl _ _ | assumption | refine below_drewN ?_ _ | refine Below.drew ?_ | refine Below.alloc ?_ (by (try simp); (try omega)) _ | refine Below.setCell ?_ (by (try simp); (try omega)) _)))
    generalize (w.alloc (Obj.cells #[.int .i64 0, .int .i64 0, .int .i64 0, .int .i64 0] 26)) = w1 at *
    obtain ⟨gn, hgn⟩ : ∃ gn, gn = w.heap.size := ⟨_, rfl⟩
    rw [← hgn] at NZ ⊢
    have HGN := hid (Nat.le_of_eq hgn.symm)
    clear hgn
    have R1 := hid (h.below B1.out)
    have TH := hid (there_yes R1.out hz.1 hz.2)
    obtain ⟨d0, d1⟩ := R1.out.at_
    obtain ⟨g, rfl, g1, g2, g3, -, z0, z1, z2, z3, z4, z5, z6, fzz⟩ := R1.out.zone hk
    obtain ⟨zz, hzz⟩ : ∃ zz, zz = zoneOf d k := ⟨_, rfl⟩
    rw [← hzz] at z0 z1 z2 z3 z4 z5 z6
    have HZZ := hid hzz
    clear hzz
    obtain ⟨x0, x1, x2, x3, x4, x5, x6⟩ := zz
    simp only at z0 z1 z2 z3 z4 z5 z6
    have hx0 : x0 = d.me := by have := HZZ.out; rw [← this] at hm; exact hm
    have hx1 : x1 = (d.hs k).1 := by have := HZZ.out; rw [← this] at hz1; exact hz1
    rw [← hx1] at h3
    have h4 : unt < x1 := by omega
    have h5 : now < x1 := by omega
    subst hx0
    clear hz h hm hz1 hx1
    go_wp2_with fail
    refine TH.out.mono ?_
    rintro e wa ⟨rfl, rfl⟩
    clear TH
    have G3 := hid g3
    have GLT := hid g1
    clear g1 g2 g3
    go_upto_region 4 with fail
    have ba : Below w1.heap.size w1 (w1.alloc (Obj.cells #[.int .i64 d.me, .int .i64 x1, .int .i64 x2, .bool x3, .int .i64 x4, .int .i64 x5, .int .i64 x6] 90)) := by (repeat (first | exact Below.refl _ _ | assumption | refine below_drewN ?_ _ | refine Below.drew ?_ | refine Below.alloc ?_ (by (try simp); (try omega)) _ | refine Below.setCell ?_ (by (try simp); (try omega)) _))
    have S1 := hid (show GS w (w1.alloc (Obj.cells #[.int .i64 d.me, .int .i64 x1, .int .i64 x2, .bool x3, .int .i64 x4, .int .i64 x5, .int .i64 x6] 90)) base b g d.home.length cc gn w1.heap.size d (d.me, x1, x2, x3, x4, x5, x6) from
      ⟨R1.out.below ba, NZ.out.below ba NZ.out.lt, Blk.new w1 _ _, B1.out.trans (ba.mono B1.out.size), by have := GLT.out; omega, HGN.out, B1.out.size⟩)
    clear d0 d1 z0 z1 z2 z3 z4 z5 z6 fzz NZ R1 B1 ba GLT
    generalize (w1.alloc (Obj.cells #[.int .i64 d.me, .int .i64 x1, .int .i64 x2, .bool x3, .int .i64 x4, .int .i64 x5, .int .i64 x6] 90)) = w2 at *
    generalize w1.heap.size = q at *
    have S2 := hid (S1.out.below (show Below w2.heap.size w2 w2.drew by (repeat (first | exact Below.refl _ _ | assumption | refine below_drewN ?_ _ | refine Below.drew ?_ | refine Below.alloc ?_ (by (try simp); (try omega)) _ | refine Below.setCell ?_ (by (try simp); (try omega)) _))))
    clear S1
    have HSF := hid (fun (wq : World) (hq : wq.cell? ⟨b, 0, none⟩ = some (.int .i64 d.me) ∧ wq.cell? ⟨q, 0, none⟩ = some (.int .i64 d.me)) => hq)
    refine wpIn_wide.1 (wpIn_region_S (n := 0) (fun wq => wq.cell? ⟨b, 0, none⟩ = some (.int .i64 d.me) ∧ wq.cell? ⟨q, 0, none⟩ = some (.int .i64 d.me)) [] (by kernel_rfl) ⟨S2.out.R.at_.1, S2.out.xs.1⟩ (fun hHeld => ?_))
    generalize w2.drew = w3 at *
    refine wpAnyS_pure 0 (v := ?_) (fun _ => trivial) (by simp only [List.getElem?_toArray, List.getElem?_cons_succ, List.getElem?_cons_zero]; rfl) (by kernel_rfl) (fun _ _ _ _ _ h => h) ⟨rfl, (by intro c h; cases h), ?_⟩ hHeld ?_
    rotate_left
    focus (intro wS hSw; (try replace hSw := HSF.out wS hSw); (try dsimp only at hSw); go_simp; (try with_reducible rfl))
    (try simp only [Act.put, List.setIfInBounds_toArray, List.set_cons_zero, List.set_cons_succ])
    refine wpAnyS_take 1 (v := ?_) (fun _ => trivial) (by simp only [List.getElem?_toArray, List.getElem?_cons_succ, List.getElem?_cons_zero]; rfl) (by kernel_rfl) (fun _ _ _ _ _ h => h) ⟨rfl, (by intro c h; cases h), ?_⟩ hHeld ?_
    rotate_left
    focus (intro wS hSw; (try replace hSw := HSF.out wS hSw); (try dsimp only at hSw); go_simp; (try with_reducible rfl))
    (try simp only [Act.put, List.setIfInBounds_toArray, List.set_cons_zero, List.set_cons_succ])
    refine wpAnyS_pure 2 (v := ?_) (fun _ => trivial) (by simp only [List.getElem?_toArray, List.getElem?_cons_succ, List.getElem?_cons_zero]; rfl) (by kernel_rfl) (fun _ _ _ _ _ h => h) ⟨rfl, (by intro c h; cases h), ?_⟩ hHeld ?_
    rotate_left
    focus (intro wS hSw; (try replace hSw := HSF.out wS hSw); (try dsimp only at hSw); go_simp; (try with_reducible rfl))
    (try simp only [Act.put, List.setIfInBounds_toArray, List.set_cons_zero, List.set_cons_succ])
    refine wpAnyS_pure 3 (v := ?_) (fun _ => trivial) (by simp only [List.getElem?_toArray, List.getElem?_cons_succ, List.getElem?_cons_zero]; rfl) (by kernel_rfl) (fun _ _ _ _ _ h => h) ⟨rfl, (by intro c h; cases h), ?_⟩ hHeld ?_
    rotate_left
    focus (intro wS hSw; (try replace hSw := HSF.out wS hSw); (try dsimp only at hSw); go_simp; (try with_reducible rfl))
    (try simp only [Act.put, List.setIfInBounds_toArray, List.set_cons_zero, List.set_cons_succ])
    refine wpAnyS_pure 4 (v := ?_) (fun _ => trivial) (by simp only [List.getElem?_toArray, List.getElem?_cons_succ, List.getElem?_cons_zero]; rfl) (by kernel_rfl) (fun _ _ _ _ _ h => h) ⟨rfl, (by intro c h; cases h), ?_⟩ hHeld ?_
    rotate_left
    focus (intro wS hSw; (try replace hSw := HSF.out wS hSw); (try dsimp only at hSw); go_simp; (try with_reducible rfl))
    (try simp only [Act.put, List.setIfInBounds_toArray, List.set_cons_zero, List.set_cons_succ])
    refine wpAnyS_take 5 (v := ?_) (fun _ => trivial) (by simp only [List.getElem?_toArray, List.getElem?_cons_succ, List.getElem?_cons_zero]; rfl) (by kernel_rfl) (fun _ _ _ _ _ h => h) ⟨rfl, (by intro c h; cases h), ?_⟩ hHeld ?_
    rotate_left
    focus (intro wS hSw; (try replace hSw := HSF.out wS hSw); (try dsimp only at hSw); go_simp; (try with_reducible rfl))
    (try simp only [Act.put, List.setIfInBounds_toArray, List.set_cons_zero, List.set_cons_succ])
    refine wpAnyS_pure 6 (v := ?_) (fun _ => trivial) (by simp only [List.getElem?_toArray, List.getElem?_cons_succ, List.getElem?_cons_zero]; rfl) (by kernel_rfl) (fun _ _ _ _ _ h => h) ⟨rfl, (by intro c h; cases h), ?_⟩ hHeld ?_
    rotate_left
    focus (intro wS hSw; (try replace hSw := HSF.out wS hSw); (try dsimp only at hSw); go_simp; (try with_reducible rfl))
    (try simp only [Act.put, List.setIfInBounds_toArray, List.set_cons_zero, List.set_cons_succ])
    refine wpAnyS_done (by kernel_rfl) ?_
    clear hHeld HSF
    obtain ⟨y0, y1, y2, y3, y4, y5, y6, fzq, ltq⟩ := S2.out.xs
    have NN := hid S2.out.N
    have RR := hid S2.out.R
    have BBx := hid S2.out.B
    clear S2
    have x0 := NN.out.cell 0; have x1 := NN.out.cell 1; have x2 := NN.out.cell 2; have x3 := NN.out.cell 3; have fz := NN.out.frozen; have lt0 := NN.out.lt
    simp at x0 x1 x2 x3
    go_wp2_with fail
    clear y0 y1 y2 y3 y4 y5 y6 fzq ltq
    obtain ⟨hN, hG⟩ := note4 NN.out rfl (.int .i64 (0)) (.int .i64 (0)) (.int .i64 (0)) (.int .i64 (0))
    have N4 := hid hN
    have G4 := hid hG
    clear hN hG x0 x1 x2 x3 fz lt0
    generalize ((((w3.setCell ⟨gn, 0, none⟩ (.int .i64 (0))).setCell ⟨gn, 1, none⟩ (.int .i64 (0))).setCell ⟨gn, 2, none⟩ (.int .i64 (0))).setCell ⟨gn, 3, none⟩ (.int .i64 (0))) = wz at *
    refine bodyPost_ret (lres_row Tryd.results23 _ _ gn 26 #[.int .i64 (0), .int .i64 (0), .int .i64 (0), .int .i64 (0)] (0, 0) _ rfl N4.out Tryd.underlying26 rfl (by kernel_rfl)) rfl ?_
    exact ⟨rfl, RR.out.note NN.out G4.out, gr_far (gr_below BBx.out _) G4.out (HGN.out)⟩
  have e : giveF d (k : Int) unt now = (((1, (k : Int), unt, (d.hs k).2.1 + 1), 0), d.setH k (giveH (d.hs k) unt)) := by
    unfold giveF
    rw [hl, if_pos rfl, if_pos ⟨h1, h2⟩, if_pos h3]
  have HZ := hid (show zonesL (d.setH k (giveH (d.hs k) unt)) = (zonesL d).set k (d.me, unt, (d.hs k).2.1 + 1, false, 0, 0, 0) by
    rw [zonesL_set (d := d) (d' := d.setH k (giveH (d.hs k) unt)) rfl hk (fun j hj => zoneOf_setH j hj), zoneH ok hp]
    rw [show d.home.getD k 0 = d.me from hm]; rfl)
  have HME := hid (show (d.setH k (giveH (d.hs k) unt)).me = d.me from rfl)
  have hwr : wrap64 ((d.hs k).2.1 + 1) = (d.hs k).2.1 + 1 := wrap64_in _ (by have := hhb.2; omega)
  rw [e]
  clear hl e ok hp hhb
  generalize d.setH k (giveH (d.hs k) unt) = d' at *
  go_enter Tryd.func23, Tryd.ntmps23
  go_upto_region 1 with fail
  have NZ := hid (Blk.new w 26 #[.int .i64 0, .int .i64 0, .int .i64 0, .int .i64 0])
  have B1 := hid (show Below w.heap.size w (w.alloc (Obj.cells #[.int .i64 0, .int .i64 0, .int .i64 0, .int .i64 0] 26)) by (repeat (first | exact Below.refl _ _ | assumption | refine below_drewN ?_ _ | refine Below.drew ?_ | refine Below.alloc ?_ (by (try simp); (try omega)) _ | refine Below.setCell ?_ (by (try simp); (try omega)) _)))
  generalize (w.alloc (Obj.cells #[.int .i64 0, .int .i64 0, .int .i64 0, .int .i64 0] 26)) = w1 at *
  obtain ⟨gn, hgn⟩ : ∃ gn, gn = w.heap.size := ⟨_, rfl⟩
  rw [← hgn] at NZ ⊢
  have HGN := hid (Nat.le_of_eq hgn.symm)
  clear hgn
  have R1 := hid (h.below B1.out)
  have TH := hid (there_yes R1.out hz.1 hz.2)
  obtain ⟨d0, d1⟩ := R1.out.at_
  obtain ⟨g, rfl, g1, g2, g3, -, z0, z1, z2, z3, z4, z5, z6, fzz⟩ := R1.out.zone hk
  obtain ⟨zz, hzz⟩ : ∃ zz, zz = zoneOf d k := ⟨_, rfl⟩
  rw [← hzz] at z0 z1 z2 z3 z4 z5 z6
  have HZZ := hid hzz
  clear hzz
  obtain ⟨x0, x1, x2, x3, x4, x5, x6⟩ := zz
  simp only at z0 z1 z2 z3 z4 z5 z6
  have hq := HZZ.out
  rw [hzz] at hq
  simp only [Prod.mk.injEq] at hq
  obtain ⟨r0, rfl, rfl, rfl, rfl, rfl, rfl⟩ := hq
  have r0' : x0 = d.me := r0.trans hm
  clear r0 hzz hm hz h HZZ
  generalize (d.hs k).2.1 = no at *
  generalize (d.hs k).1 = en at *
  generalize (d.hs k).2.2 = x3 at *
  subst r0'
  have h3' : ¬ unt < en := by omega
  go_wp2_with fail
  refine TH.out.mono ?_
  rintro e wa ⟨rfl, rfl⟩
  clear TH
  have G3 := hid g3
  have GLT := hid g1
  clear g1 g2 g3
  go_upto_region 4 with fail
  have ba : Below w1.heap.size w1 (w1.alloc (Obj.cells #[.int .i64 d.me, .int .i64 en, .int .i64 no, .bool x3, .int .i64 0, .int .i64 0, .int .i64 0] 90)) := by (repeat (first | exact Below.refl _ _ | assumption | refine below_drewN ?_ _ | refine Below.drew ?_ | refine Below.alloc ?_ (by (try simp); (try omega)) _ | refine Below.setCell ?_ (by (try simp); (try omega)) _))
  have S1 := hid (show GS w (w1.alloc (Obj.cells #[.int .i64 d.me, .int .i64 en, .int .i64 no, .bool x3, .int .i64 0, .int .i64 0, .int .i64 0] 90)) base b g d.home.length cc gn w1.heap.size d (d.me, en, no, x3, 0, 0, 0) from
    ⟨R1.out.below ba, NZ.out.below ba NZ.out.lt, Blk.new w1 _ _, B1.out.trans (ba.mono B1.out.size), by have := GLT.out; omega, HGN.out, B1.out.size⟩)
  clear d0 d1 z0 z1 z2 z3 z4 z5 z6 fzz NZ R1 B1 ba GLT
  generalize (w1.alloc (Obj.cells #[.int .i64 d.me, .int .i64 en, .int .i64 no, .bool x3, .int .i64 0, .int .i64 0, .int .i64 0] 90)) = w2 at *
  generalize w1.heap.size = q at *
  have S2 := hid (S1.out.below (show Below w2.heap.size w2 w2.drew by (repeat (first | exact Below.refl _ _ | assumption | refine below_drewN ?_ _ | refine Below.drew ?_ | refine Below.alloc ?_ (by (try simp); (try omega)) _ | refine Below.setCell ?_ (by (try simp); (try omega)) _))))
  clear S1
  have HSF := hid (fun (wq : World) (hq : wq.cell? ⟨b, 0, none⟩ = some (.int .i64 d.me) ∧ wq.cell? ⟨q, 0, none⟩ = some (.int .i64 d.me)) => hq)
  refine wpIn_wide.1 (wpIn_region_S (n := 0) (fun wq => wq.cell? ⟨b, 0, none⟩ = some (.int .i64 d.me) ∧ wq.cell? ⟨q, 0, none⟩ = some (.int .i64 d.me)) [] (by kernel_rfl) ⟨S2.out.R.at_.1, S2.out.xs.1⟩ (fun hHeld => ?_))
  generalize w2.drew = w3 at *
  refine wpAnyS_pure 0 (v := ?_) (fun _ => trivial) (by simp only [List.getElem?_toArray, List.getElem?_cons_succ, List.getElem?_cons_zero]; rfl) (by kernel_rfl) (fun _ _ _ _ _ h => h) ⟨rfl, (by intro c h; cases h), ?_⟩ hHeld ?_
  rotate_left
  focus (intro wS hSw; (try replace hSw := HSF.out wS hSw); (try dsimp only at hSw); go_simp; (try with_reducible rfl))
  (try simp only [Act.put, List.setIfInBounds_toArray, List.set_cons_zero, List.set_cons_succ])
  refine wpAnyS_take 1 (v := ?_) (fun _ => trivial) (by simp only [List.getElem?_toArray, List.getElem?_cons_succ, List.getElem?_cons_zero]; rfl) (by kernel_rfl) (fun _ _ _ _ _ h => h) ⟨rfl, (by intro c h; cases h), ?_⟩ hHeld ?_
  rotate_left
  focus (intro wS hSw; (try replace hSw := HSF.out wS hSw); (try dsimp only at hSw); go_simp; (try with_reducible rfl))
  (try simp only [Act.put, List.setIfInBounds_toArray, List.set_cons_zero, List.set_cons_succ])
  refine wpAnyS_pure 2 (v := ?_) (fun _ => trivial) (by simp only [List.getElem?_toArray, List.getElem?_cons_succ, List.getElem?_cons_zero]; rfl) (by kernel_rfl) (fun _ _ _ _ _ h => h) ⟨rfl, (by intro c h; cases h), ?_⟩ hHeld ?_
  rotate_left
  focus (intro wS hSw; (try replace hSw := HSF.out wS hSw); (try dsimp only at hSw); go_simp; (try with_reducible rfl))
  (try simp only [Act.put, List.setIfInBounds_toArray, List.set_cons_zero, List.set_cons_succ])
  refine wpAnyS_pure 3 (v := ?_) (fun _ => trivial) (by simp only [List.getElem?_toArray, List.getElem?_cons_succ, List.getElem?_cons_zero]; rfl) (by kernel_rfl) (fun _ _ _ _ _ h => h) ⟨rfl, (by intro c h; cases h), ?_⟩ hHeld ?_
  rotate_left
  focus (intro wS hSw; (try replace hSw := HSF.out wS hSw); (try dsimp only at hSw); go_simp; (try with_reducible rfl))
  (try simp only [Act.put, List.setIfInBounds_toArray, List.set_cons_zero, List.set_cons_succ])
  refine wpAnyS_pure 4 (v := ?_) (fun _ => trivial) (by simp only [List.getElem?_toArray, List.getElem?_cons_succ, List.getElem?_cons_zero]; rfl) (by kernel_rfl) (fun _ _ _ _ _ h => h) ⟨rfl, (by intro c h; cases h), ?_⟩ hHeld ?_
  rotate_left
  focus (intro wS hSw; (try replace hSw := HSF.out wS hSw); (try dsimp only at hSw); go_simp; (try with_reducible rfl))
  (try simp only [Act.put, List.setIfInBounds_toArray, List.set_cons_zero, List.set_cons_succ])
  refine wpAnyS_take 5 (v := ?_) (fun _ => trivial) (by simp only [List.getElem?_toArray, List.getElem?_cons_succ, List.getElem?_cons_zero]; rfl) (by kernel_rfl) (fun _ _ _ _ _ h => h) ⟨rfl, (by intro c h; cases h), ?_⟩ hHeld ?_
  rotate_left
  focus (intro wS hSw; (try replace hSw := HSF.out wS hSw); (try dsimp only at hSw); go_simp; (try with_reducible rfl))
  (try simp only [Act.put, List.setIfInBounds_toArray, List.set_cons_zero, List.set_cons_succ])
  refine wpAnyS_pure 6 (v := ?_) (fun _ => trivial) (by simp only [List.getElem?_toArray, List.getElem?_cons_succ, List.getElem?_cons_zero]; rfl) (by kernel_rfl) (fun _ _ _ _ _ h => h) ⟨rfl, (by intro c h; cases h), ?_⟩ hHeld ?_
  rotate_left
  focus (intro wS hSw; (try replace hSw := HSF.out wS hSw); (try dsimp only at hSw); go_simp; (try with_reducible rfl))
  (try simp only [Act.put, List.setIfInBounds_toArray, List.set_cons_zero, List.set_cons_succ])
  refine wpAnyS_done (by kernel_rfl) ?_
  clear hHeld HSF
  obtain ⟨y0, y1, y2, y3, y4, y5, y6, fzq, ltq⟩ := S2.out.xs
  go_upto_region 13 with fail
  have S3 := hid (((S2.out.st (y := (d.me, en, no + 1, x3, 0, 0, 0)) 2 (.int .i64 (no + 1)) rfl).st (y := (d.me, unt, no + 1, x3, 0, 0, 0)) 1 (.int .i64 unt) rfl).st (y := (d.me, unt, no + 1, false, 0, 0, 0)) 3 (.bool false) rfl)
  clear y0 y1 y2 y3 y4 y5 y6 fzq ltq S2
  generalize (((w3.setCell ⟨q, 2, none⟩ (.int .i64 (no + 1))).setCell ⟨q, 1, none⟩ (.int .i64 unt)).setCell ⟨q, 3, none⟩ (.bool false)) = w4 at *
  have SD := hid (S3.out.below (show Below w4.heap.size w4 w4.drew by (repeat (first | exact Below.refl _ _ | assumption | refine below_drewN ?_ _ | refine Below.drew ?_ | refine Below.alloc ?_ (by (try simp); (try omega)) _ | refine Below.setCell ?_ (by (try simp); (try omega)) _))))
  clear S3
  have hkl := hid (show k < (zonesL d).length by rw [zonesL_len]; exact hk)
  have HSF := hid (fun (wq : World) (hq : wq = w4.drew) => show wq.cell? ⟨b, 1, none⟩ = some (.slice (some ⟨g, 0, none⟩) d.home.length cc) ∧ wq.cell? ⟨q, 0, none⟩ = some (.int .i64 (d.me)) ∧ wq.cell? ⟨q, 1, none⟩ = some (.int .i64 (unt)) ∧ wq.cell? ⟨q, 2, none⟩ = some (.int .i64 (no + 1)) ∧ wq.cell? ⟨q, 3, none⟩ = some (.bool false) ∧ wq.cell? ⟨q, 4, none⟩ = some (.int .i64 (0)) ∧ wq.cell? ⟨q, 5, none⟩ = some (.int .i64 (0)) ∧ wq.cell? ⟨q, 6, none⟩ = some (.int .i64 (0)) by
    subst hq
    obtain ⟨y0, y1, y2, y3, y4, y5, y6, -, -⟩ := SD.out.xs
    exact ⟨SD.out.R.at_.2, y0, y1, y2, y3, y4, y5, y6⟩)
  refine wpIn_wide.1 (wpIn_region_S (n := 0) (fun wq => wq = w4.drew) [7] (by kernel_rfl) rfl (fun hHeld => ?_))
  refine wpAnyS_pure 0 (v := ?_) (fun _ => trivial) (by simp only [List.getElem?_toArray, List.getElem?_cons_succ, List.getElem?_cons_zero]; rfl) (by kernel_rfl) (fun _ _ _ _ _ h => h) ⟨rfl, (by intro c h; cases h), ?_⟩ hHeld ?_
  rotate_left
  focus (intro wS hSw; (try replace hSw := HSF.out wS hSw); (try dsimp only at hSw); go_simp; (try with_reducible rfl))
  (try simp only [Act.put, List.setIfInBounds_toArray, List.set_cons_zero, List.set_cons_succ])
  refine wpAnyS_pure 1 (v := ?_) (fun _ => trivial) (by simp only [List.getElem?_toArray, List.getElem?_cons_succ, List.getElem?_cons_zero]; rfl) (by kernel_rfl) (fun _ _ _ _ _ h => h) ⟨rfl, (by intro c h; cases h), ?_⟩ hHeld ?_
  rotate_left
  focus (intro wS hSw; (try replace hSw := HSF.out wS hSw); (try dsimp only at hSw); go_simp; (try with_reducible rfl))
  (try simp only [Act.put, List.setIfInBounds_toArray, List.set_cons_zero, List.set_cons_succ])
  refine wpAnyS_pure 2 (v := ?_) (fun _ => trivial) (by simp only [List.getElem?_toArray, List.getElem?_cons_succ, List.getElem?_cons_zero]; rfl) (by kernel_rfl) (fun _ _ _ _ _ h => h) ⟨rfl, (by intro c h; cases h), ?_⟩ hHeld ?_
  rotate_left
  focus (intro wS hSw; (try replace hSw := HSF.out wS hSw); (try dsimp only at hSw); go_simp; (try with_reducible rfl))
  (try simp only [Act.put, List.setIfInBounds_toArray, List.set_cons_zero, List.set_cons_succ])
  refine wpAnyS_take 3 (v := ?_) (fun _ => trivial) (by simp only [List.getElem?_toArray, List.getElem?_cons_succ, List.getElem?_cons_zero]; rfl) (by kernel_rfl) (fun _ _ _ _ _ h => h) ⟨rfl, (by intro c h; cases h), ?_⟩ hHeld ?_
  rotate_left
  focus (intro wS hSw; (try replace hSw := HSF.out wS hSw); (try dsimp only at hSw); go_simp; (try with_reducible rfl))
  (try simp only [Act.put, List.setIfInBounds_toArray, List.set_cons_zero, List.set_cons_succ])
  refine wpAnyS_pure 4 (v := ?_) (fun _ => trivial) (by simp only [List.getElem?_toArray, List.getElem?_cons_succ, List.getElem?_cons_zero]; rfl) (by kernel_rfl) (fun _ _ _ _ _ h => h) ⟨rfl, (by intro c h; cases h), ?_⟩ hHeld ?_
  rotate_left
  focus (intro wS hSw; (try replace hSw := HSF.out wS hSw); (try dsimp only at hSw); go_simp; (try with_reducible rfl))
  (try simp only [Act.put, List.setIfInBounds_toArray, List.set_cons_zero, List.set_cons_succ])
  refine wpAnyS_take 5 (v := ?_) (fun _ => trivial) (by simp only [List.getElem?_toArray, List.getElem?_cons_succ, List.getElem?_cons_zero]; rfl) (by kernel_rfl) (fun _ _ _ _ _ h => h) ⟨rfl, (by intro c h; cases h), ?_⟩ hHeld ?_
  rotate_left
  focus (intro wS hSw; (try replace hSw := HSF.out wS hSw); (try dsimp only at hSw); go_simp; (try with_reducible rfl))
  (try simp only [Act.put, List.setIfInBounds_toArray, List.set_cons_zero, List.set_cons_succ])
  refine wpAnyS_pure 6 (v := ?_) (fun _ => trivial) (by simp only [List.getElem?_toArray, List.getElem?_cons_succ, List.getElem?_cons_zero]; rfl) (by kernel_rfl) (fun _ _ _ _ _ h => h) ⟨rfl, (by intro c h; cases h), ?_⟩ hHeld ?_
  rotate_left
  focus (intro wS hSw; (try replace hSw := HSF.out wS hSw); (try dsimp only at hSw); go_simp; (try with_reducible rfl))
  (try simp only [Act.put, List.setIfInBounds_toArray, List.set_cons_zero, List.set_cons_succ])
  generalize w4.drew = wd at *
  refine wpAnyS_ready [7] (by kernel_rfl) (by simp) (AllReadyS.consL (by simp only [List.getElem?_toArray, List.getElem?_cons_succ, List.getElem?_cons_zero]; rfl) rfl (by kernel_rfl) (fun K hK => ?_) AllReadyS.nil)
  refine storeZS (fun _ => trivial) (.tmp 65) (.tmp 64) rfl (z := (d.me, unt, no + 1, false, 0, 0, 0)) rfl rfl SD.out.R.r hkl.out ?_
  intro w9 o9 g9
  refine hK.out _ _ ?_
  (try simp only [Act.put, List.setIfInBounds_toArray, List.set_cons_zero, List.set_cons_succ])
  clear hK K hHeld HSF
  have R9 := hid (SD.out.R.put o9 g9 G3.out HZ.out HME.out)
  have N9 := hid (SD.out.N.grown g9 (fun e => own_blk_ne SD.out.R.r SD.out.N (by decide) (by rw [e]; rfl)))
  have X9 := hid (SD.out.X.grown g9 (fun e => SD.out.qg (by injection e with e; exact e.symm)))
  have GB := hid (gr_tr (gr_below SD.out.B (some g)) g9)
  clear o9 g9 SD
  refine wpAnyS_done (by kernel_rfl) ?_
  have y2 : w9.cell? ⟨q, 2, none⟩ = some (.int .i64 (no + 1)) := X9.out.cell 2
  have x0 := N9.out.cell 0; have x1 := N9.out.cell 1; have x2 := N9.out.cell 2; have x3 := N9.out.cell 3; have fz := N9.out.frozen; have lt0 := N9.out.lt
  simp at x0 x1 x2 x3
  go_wp2_with fail
  obtain ⟨hN, hG⟩ := note4 N9.out rfl (.int .i64 (1)) (.int .i64 (k : Int)) (.int .i64 unt) (.int .i64 (no + 1))
  have N4 := hid hN
  have G4 := hid hG
  clear hN hG x0 x1 x2 x3 fz lt0
  generalize ((((w9.setCell ⟨gn, 0, none⟩ (.int .i64 (1))).setCell ⟨gn, 1, none⟩ (.int .i64 (k : Int))).setCell ⟨gn, 2, none⟩ (.int .i64 unt)).setCell ⟨gn, 3, none⟩ (.int .i64 (no + 1))) = wz at *
  refine bodyPost_ret (lres_row Tryd.results23 _ _ gn 26 #[.int .i64 (1), .int .i64 (k : Int), .int .i64 unt, .int .i64 (no + 1)] (0, 0) _ rfl N4.out Tryd.underlying26 rfl (by kernel_rfl)) rfl ?_
  exact ⟨rfl, R9.out.note N9.out G4.out, gr_far GB.out G4.out HGN.out⟩
end
end Go.Proofs.YtappgjdnfllblaaDoor
