
/- Lease: the reference's Back, Hear. -/
import Derived.Test.YtappgjdnfllblaaDoorLrF
set_option linter.unusedSimpArgs false
set_option linter.unusedVariables false
namespace Go.Proofs.YtappgjdnfllblaaDoor
open Go.RowKit Go.IntWalk Go.Maps Go.WideMaps
section
variable {w w' W : World} {base b gn g n c : Nat} {v : Value} {d d' : LDk} {cs : Array Value}
set_option maxRecDepth 100000 in
set_option maxHeartbeats 4000000 in
theorem rback_any (h : RLd w base b v d) (ok : d.Ok) {z : Int} : Calls Tryd.prog 25 #[.pointer (some ⟨b, 0, none⟩), .int .i64 z] w (RLRes w base b v (.tuple #[noteV (backF d z).1.1, .int .i64 (backF d z).1.2]) (backF d z).2) := by
  by_cases hz : 0 ≤ z ∧ z < d.home.length
  case neg =>
    have e : backF d z = ((zeroN, 4), d) := by
      have hl : lAs d z false = 4 := by unfold lAs; rw [if_pos (by omega)]
      unfold backF
      rw [if_neg (by rw [hl]; decide), hl]
    rw [e]
    clear ok e
    go_enter Tryd.func25, Tryd.ntmps25
    go_upto_region 1 with fail
    have NZ := hid (Blk.new w 26 #[.int .i64 0, .int .i64 0, .int .i64 0, .int .i64 0])
    have B1 := hid (show Below w.heap.size w (w.alloc (Obj.cells #[.int .i64 0, .int .i64 0, .int .i64 0, .int .i64 0] 26)) by (repeat (first | exact Below.refl _ _ | assumption | refine below_drewN ?_ _ | refine Below.drew ?_ | refine Below.alloc ?_ (by (try simp); (try omega)) _ | refine Below.setCell ?_ (by (try simp); (try omega)) _)))
    generalize (w.alloc (Obj.cells #[.int .i64 0, .int .i64 0, .int .i64 0, .int .i64 0] 26)) = w1 at *
    obtain ⟨gn, hgn⟩ : ∃ gn, gn = w.heap.size := ⟨_, rfl⟩
    rw [← hgn] at NZ ⊢
    have HGN := hid (Nat.le_of_eq hgn.symm)
    clear hgn
    have R1 := hid (h.below B1.out)
    have TH := hid (there_no R1.out hz)
    clear hz
    go_wp2_with fail
    refine TH.out.mono ?_
    rintro e wa ⟨rfl, rfl⟩
    clear TH h
    have x0 := NZ.out.cell 0; have x1 := NZ.out.cell 1; have x2 := NZ.out.cell 2; have x3 := NZ.out.cell 3; have fz := NZ.out.frozen; have lt0 := NZ.out.lt
    simp at x0 x1 x2 x3
    go_wp2_with fail
    obtain ⟨hN, hG⟩ := note4 NZ.out rfl (.int .i64 (0)) (.int .i64 (0)) (.int .i64 (0)) (.int .i64 (0))
    have N4 := hid hN
    have G4 := hid hG
    clear hN hG x0 x1 x2 x3 fz lt0
    generalize ((((w1.setCell ⟨gn, 0, none⟩ (.int .i64 (0))).setCell ⟨gn, 1, none⟩ (.int .i64 (0))).setCell ⟨gn, 2, none⟩ (.int .i64 (0))).setCell ⟨gn, 3, none⟩ (.int .i64 (0))) = wz at *
    refine bodyPost_ret (lres_row Tryd.results25 _ _ gn 26 #[.int .i64 (0), .int .i64 (0), .int .i64 (0), .int .i64 (0)] (0, 0) _ rfl N4.out Tryd.underlying26 rfl (by kernel_rfl)) rfl ?_
    exact ⟨rfl, R1.out.note NZ.out G4.out, gr_far (gr_below B1.out _) G4.out HGN.out⟩
  obtain ⟨k, rfl⟩ : ∃ k : Nat, z = k := ⟨z.toNat, by omega⟩
  have hk : k < d.home.length := by omega
  obtain ⟨A, cc, rfl⟩ := h.form
  have hk2 : (k : Int) < d.home.length := by omega
  by_cases hm : (zoneOf d k).1 = d.me
  case pos =>
    have hl : lAs d (k : Int) false = 7 := by
      unfold lAs
      rw [if_neg (by omega)]
      have hm' : d.home.getD (k : Int).toNat 0 = d.me := hm
      simp only [decide_eq_true hm', ne_eq] <;> rfl
    have e : backF d (k : Int) = ((zeroN, 7), d) := by
      unfold backF
      rw [hl]; rfl
    rw [e]
    clear hl e ok
    go_enter Tryd.func25, Tryd.ntmps25
    go_upto_region 1 with fail
    have NZ := hid (Blk.new w 26 #[.int .i64 0, .int .i64 0, .int .i64 0, .int .i64 0])
    have B1 := hid (show Below w.heap.size w (w.alloc (Obj.cells #[.int .i64 0, .int .i64 0, .int .i64 0, .int .i64 0] 26)) by (repeat (first | exact Below.refl _ _ | assumption | refine below_drewN ?_ _ | refine Below.drew ?_ | refine Below.alloc ?_ (by (try simp); (try omega)) _ | refine Below.setCell ?_ (by (try simp); (try omega)) _)))
    generalize (w.alloc (Obj.cells #[.int .i64 0, .int .i64 0, .int .i64 0, .int .i64 0] 26)) = w1 at *
    obtain ⟨gn, hgn⟩ : ∃ gn, gn = w.heap.size := ⟨_, rfl⟩
    rw [← hgn] at NZ ⊢
    have HGN := hid (Nat.le_of_eq hgn.symm)
    clear hgn
    have R1 := hid (h.below B1.out)
    have TH := hid (there_yes R1.out hz.1 hz.2)
    obtain ⟨d0, d1⟩ := R1.out.at_
    obtain ⟨g, rfl, g1, g2, g3, -, z0, z1, z2, z3, z4, z5, z6, fzz⟩ := R1.out.zone hk
    obtain ⟨zz, hzz⟩ : ∃ zz, zz = zoneOf d k := ⟨_, rfl⟩
    rw [← hzz] at z0 z1 z2 z3 z4 z5 z6
    have HZZ := hid hzz
    clear hzz
    obtain ⟨x0, x1, x2, x3, x4, x5, x6⟩ := zz
    simp only at z0 z1 z2 z3 z4 z5 z6
    have hx0 : x0 = d.me := by have := HZZ.out; rw [← this] at hm; exact hm
    subst hx0
    clear hz h hm
    go_wp2_with fail
    refine TH.out.mono ?_
    rintro e wa ⟨rfl, rfl⟩
    clear TH
    have G3 := hid g3
    have GLT := hid g1
    clear g1 g2 g3
    go_upto_region 4 with fail
    have ba : Below w1.heap.size w1 (w1.alloc (Obj.cells #[.int .i64 d.me, .int .i64 x1, .int .i64 x2, .bool x3, .int .i64 x4, .int .i64 x5, .int .i64 x6] 90)) := by (repeat (first | exact Below.refl _ _ | assumption | refine below_drewN ?_ _ | refine Below.drew ?_ | refine Below.alloc ?_ (by (try simp); (try omega)) _ | refine Below.setCell ?_ (by (try simp); (try omega)) _))
    have S1 := hid (show GS w (w1.alloc (Obj.cells #[.int .i64 d.me, .int .i64 x1, .int .i64 x2, .bool x3, .int .i64 x4, .int .i64 x5, .int .i64 x6] 90)) base b g d.home.length cc gn w1.heap.size d (d.me, x1, x2, x3, x4, x5, x6) from
      ⟨R1.out.below ba, NZ.out.below ba NZ.out.lt, Blk.new w1 _ _, B1.out.trans (ba.mono B1.out.size), by have := GLT.out; omega, HGN.out, B1.out.size⟩)
    clear d0 d1 z0 z1 z2 z3 z4 z5 z6 fzz NZ R1 B1 ba GLT
    generalize (w1.alloc (Obj.cells #[.int .i64 d.me, .int .i64 x1, .int .i64 x2, .bool x3, .int .i64 x4, .int .i64 x5, .int .i64 x6] 90)) = w2 at *
    generalize w1.heap.size = q at *
    have S2 := hid (S1.out.below (show Below w2.heap.size w2 w2.drew by (repeat (first | exact Below.refl _ _ | assumption | refine below_drewN ?_ _ | refine Below.drew ?_ | refine Below.alloc ?_ (by (try simp); (try omega)) _ | refine Below.setCell ?_ (by (try simp); (try omega)) _))))
    clear S1
    have HSF := hid (fun (wq : World) (hq : wq.cell? ⟨b, 0, none⟩ = some (.int .i64 d.me) ∧ wq.cell? ⟨q, 0, none⟩ = some (.int .i64 d.me)) => hq)
    refine wpIn_wide.1 (wpIn_region_S (n := 0) (fun wq => wq.cell? ⟨b, 0, none⟩ = some (.int .i64 d.me) ∧ wq.cell? ⟨q, 0, none⟩ = some (.int .i64 d.me)) [] (by kernel_rfl) ⟨S2.out.R.at_.1, S2.out.xs.1⟩ (fun hHeld => ?_))
    generalize w2.drew = w3 at *
    refine wpAnyG_pure 0 (v := ?_) (fun _ => trivial) (by simp only [List.getElem?_toArray, List.getElem?_cons_succ, List.getElem?_cons_zero]; rfl) (by kernel_rfl) (fun _ _ _ _ _ h => h) ⟨(by rfl), (by intro c h; cases h), ?_⟩ hHeld ?_
    rotate_left
    focus (intro wS hSw; (try replace hSw := HSF.out wS hSw); (try dsimp only at hSw); go_simp; (try with_reducible rfl))
    (try simp only [Act.put, List.setIfInBounds_toArray, List.set_cons_zero, List.set_cons_succ])
    refine wpAnyG_take 1 (v := ?_) (fun _ => trivial) (by simp only [List.getElem?_toArray, List.getElem?_cons_succ, List.getElem?_cons_zero]; rfl) (by kernel_rfl) (fun _ _ _ _ _ h => h) ⟨(by rfl), (by intro c h; cases h), ?_⟩ hHeld ?_
    rotate_left
    focus (intro wS hSw; (try replace hSw := HSF.out wS hSw); (try dsimp only at hSw); go_simp; (try with_reducible rfl))
    (try simp only [Act.put, List.setIfInBounds_toArray, List.set_cons_zero, List.set_cons_succ])
    refine wpAnyG_pure 2 (v := ?_) (fun _ => trivial) (by simp only [List.getElem?_toArray, List.getElem?_cons_succ, List.getElem?_cons_zero]; rfl) (by kernel_rfl) (fun _ _ _ _ _ h => h) ⟨(by rfl), (by intro c h; cases h), ?_⟩ hHeld ?_
    rotate_left
    focus (intro wS hSw; (try replace hSw := HSF.out wS hSw); (try dsimp only at hSw); go_simp; (try with_reducible rfl))
    (try simp only [Act.put, List.setIfInBounds_toArray, List.set_cons_zero, List.set_cons_succ])
    refine wpAnyG_pure 3 (v := ?_) (fun _ => trivial) (by simp only [List.getElem?_toArray, List.getElem?_cons_succ, List.getElem?_cons_zero]; rfl) (by kernel_rfl) (fun _ _ _ _ _ h => h) ⟨(by rfl), (by intro c h; cases h), ?_⟩ hHeld ?_
    rotate_left
    focus (intro wS hSw; (try replace hSw := HSF.out wS hSw); (try dsimp only at hSw); go_simp; (try with_reducible rfl))
    (try simp only [Act.put, List.setIfInBounds_toArray, List.set_cons_zero, List.set_cons_succ])
    refine wpAnyG_pure 4 (v := ?_) (fun _ => trivial) (by simp only [List.getElem?_toArray, List.getElem?_cons_succ, List.getElem?_cons_zero]; rfl) (by kernel_rfl) (fun _ _ _ _ _ h => h) ⟨(by rfl), (by intro c h; cases h), ?_⟩ hHeld ?_
    rotate_left
    focus (intro wS hSw; (try replace hSw := HSF.out wS hSw); (try dsimp only at hSw); go_simp; (try with_reducible rfl))
    (try simp only [Act.put, List.setIfInBounds_toArray, List.set_cons_zero, List.set_cons_succ])
    refine wpAnyG_take 5 (v := ?_) (fun _ => trivial) (by simp only [List.getElem?_toArray, List.getElem?_cons_succ, List.getElem?_cons_zero]; rfl) (by kernel_rfl) (fun _ _ _ _ _ h => h) ⟨(by rfl), (by intro c h; cases h), ?_⟩ hHeld ?_
    rotate_left
    focus (intro wS hSw; (try replace hSw := HSF.out wS hSw); (try dsimp only at hSw); go_simp; (try with_reducible rfl))
    (try simp only [Act.put, List.setIfInBounds_toArray, List.set_cons_zero, List.set_cons_succ])
    refine wpAnyG_pure 6 (v := ?_) (fun _ => trivial) (by simp only [List.getElem?_toArray, List.getElem?_cons_succ, List.getElem?_cons_zero]; rfl) (by kernel_rfl) (fun _ _ _ _ _ h => h) ⟨(by rfl), (by intro c h; cases h), ?_⟩ hHeld ?_
    rotate_left
    focus (intro wS hSw; (try replace hSw := HSF.out wS hSw); (try dsimp only at hSw); go_simp; (try with_reducible rfl))
    (try simp only [Act.put, List.setIfInBounds_toArray, List.set_cons_zero, List.set_cons_succ])
    refine wpAnyG_pure 7 (v := ?_) (fun _ => trivial) (by simp only [List.getElem?_toArray, List.getElem?_cons_succ, List.getElem?_cons_zero]; rfl) (by kernel_rfl) (fun _ _ _ _ _ h => h) ⟨(by rfl), (by intro c h; cases h), ?_⟩ hHeld ?_
    rotate_left
    focus (intro wS hSw; (try replace hSw := HSF.out wS hSw); (try dsimp only at hSw); go_simp; (try with_reducible rfl))
    (try simp only [Act.put, List.setIfInBounds_toArray, List.set_cons_zero, List.set_cons_succ])
    refine wpAnyG_skip 8 (fun _ => trivial) (by simp only [List.getElem?_toArray, List.getElem?_cons_succ, List.getElem?_cons_zero]; rfl) (by kernel_rfl) (fun _ _ _ _ _ h => h) (by rfl) hHeld ?_
    (try simp only [Act.put, List.setIfInBounds_toArray, List.set_cons_zero, List.set_cons_succ])
    refine wpAnyG_skip 9 (fun _ => trivial) (by simp only [List.getElem?_toArray, List.getElem?_cons_succ, List.getElem?_cons_zero]; rfl) (by kernel_rfl) (fun _ _ _ _ _ h => h) (by rfl) hHeld ?_
    (try simp only [Act.put, List.setIfInBounds_toArray, List.set_cons_zero, List.set_cons_succ])
    refine wpAnyG_skip 10 (fun _ => trivial) (by simp only [List.getElem?_toArray, List.getElem?_cons_succ, List.getElem?_cons_zero]; rfl) (by kernel_rfl) (fun _ _ _ _ _ h => h) (by rfl) hHeld ?_
    (try simp only [Act.put, List.setIfInBounds_toArray, List.set_cons_zero, List.set_cons_succ])
    refine wpAnyG_skip 11 (fun _ => trivial) (by simp only [List.getElem?_toArray, List.getElem?_cons_succ, List.getElem?_cons_zero]; rfl) (by kernel_rfl) (fun _ _ _ _ _ h => h) (by rfl) hHeld ?_
    (try simp only [Act.put, List.setIfInBounds_toArray, List.set_cons_zero, List.set_cons_succ])
    refine wpAnyG_skip 12 (fun _ => trivial) (by simp only [List.getElem?_toArray, List.getElem?_cons_succ, List.getElem?_cons_zero]; rfl) (by kernel_rfl) (fun _ _ _ _ _ h => h) (by rfl) hHeld ?_
    (try simp only [Act.put, List.setIfInBounds_toArray, List.set_cons_zero, List.set_cons_succ])
    refine wpAnyG_pure 13 (v := ?_) (fun _ => trivial) (by simp only [List.getElem?_toArray, List.getElem?_cons_succ, List.getElem?_cons_zero]; rfl) (by kernel_rfl) (fun _ _ _ _ _ h => h) ⟨(by rfl), (by intro c h; cases h), ?_⟩ hHeld ?_
    rotate_left
    focus (intro wS hSw; (try replace hSw := HSF.out wS hSw); (try dsimp only at hSw); go_simp; (try with_reducible rfl))
    (try simp only [Act.put, List.setIfInBounds_toArray, List.set_cons_zero, List.set_cons_succ])
    refine wpAnyS_done (by kernel_rfl) ?_
    clear hHeld HSF
    have NN := hid S2.out.N
    have RR := hid S2.out.R
    have BBx := hid S2.out.B
    clear S2
    have x0 := NN.out.cell 0; have x1 := NN.out.cell 1; have x2 := NN.out.cell 2; have x3 := NN.out.cell 3; have fz := NN.out.frozen; have lt0 := NN.out.lt
    simp at x0 x1 x2 x3
    go_wp2_with fail
    obtain ⟨hN, hG⟩ := note4 NN.out rfl (.int .i64 (0)) (.int .i64 (0)) (.int .i64 (0)) (.int .i64 (0))
    have N4 := hid hN
    have G4 := hid hG
    clear hN hG x0 x1 x2 x3 fz lt0
    generalize ((((w3.setCell ⟨gn, 0, none⟩ (.int .i64 (0))).setCell ⟨gn, 1, none⟩ (.int .i64 (0))).setCell ⟨gn, 2, none⟩ (.int .i64 (0))).setCell ⟨gn, 3, none⟩ (.int .i64 (0))) = wz at *
    refine bodyPost_ret (lres_row Tryd.results25 _ _ gn 26 #[.int .i64 (0), .int .i64 (0), .int .i64 (0), .int .i64 (0)] (0, 0) _ rfl N4.out Tryd.underlying26 rfl (by kernel_rfl)) rfl ?_
    exact ⟨rfl, RR.out.note NN.out G4.out, gr_far (gr_below BBx.out _) G4.out (HGN.out)⟩
  have hl : lAs d (k : Int) false = 0 := by
    unfold lAs
    rw [if_neg (by omega)]
    have hm' : ¬ d.home.getD (k : Int).toNat 0 = d.me := hm
    simp only [decide_eq_false hm', ne_eq] <;> rfl
  have hp : d.hp k = false := by
    cases hq : d.hp k with
    | false => rfl
    | true => exact absurd ((home_hp hk).2 hq) hm
  have hzz := zoneOf_g ok hp
  by_cases hs : (d.gs k).2.2.1 < (d.gs k).2.1
  case neg =>
    have e : backF d (k : Int) = ((zeroN, 7), d) := by
      unfold backF
      rw [hl, if_pos rfl, if_neg hs]
    rw [e]
    clear hl e ok hp
    go_enter Tryd.func25, Tryd.ntmps25
    go_upto_region 1 with fail
    have NZ := hid (Blk.new w 26 #[.int .i64 0, .int .i64 0, .int .i64 0, .int .i64 0])
    have B1 := hid (show Below w.heap.size w (w.alloc (Obj.cells #[.int .i64 0, .int .i64 0, .int .i64 0, .int .i64 0] 26)) by (repeat (first | exact Below.refl _ _ | assumption | refine below_drewN ?_ _ | refine Below.drew ?_ | refine Below.alloc ?_ (by (try simp); (try omega)) _ | refine Below.setCell ?_ (by (try simp); (try omega)) _)))
    generalize (w.alloc (Obj.cells #[.int .i64 0, .int .i64 0, .int .i64 0, .int .i64 0] 26)) = w1 at *
    obtain ⟨gn, hgn⟩ : ∃ gn, gn = w.heap.size := ⟨_, rfl⟩
    rw [← hgn] at NZ ⊢
    have HGN := hid (Nat.le_of_eq hgn.symm)
    clear hgn
    have R1 := hid (h.below B1.out)
    have TH := hid (there_yes R1.out hz.1 hz.2)
    obtain ⟨d0, d1⟩ := R1.out.at_
    obtain ⟨g, rfl, g1, g2, g3, -, z0, z1, z2, z3, z4, z5, z6, fzz⟩ := R1.out.zone hk
    obtain ⟨zz, hzz⟩ : ∃ zz, zz = zoneOf d k := ⟨_, rfl⟩
    rw [← hzz] at z0 z1 z2 z3 z4 z5 z6
    have HZZ := hid hzz
    clear hzz
    obtain ⟨x0, x1, x2, x3, x4, x5, x6⟩ := zz
    simp only at z0 z1 z2 z3 z4 z5 z6
    have hq := HZZ.out
    rw [hzz] at hq
    simp only [Prod.mk.injEq] at hq
    obtain ⟨r0, rfl, rfl, rfl, rfl, rfl, rfl⟩ := hq
    have hx0 : x0 ≠ d.me := by rw [r0]; exact hm
    have hxb : (x0 == d.me) = false := by simpa using hx0
    have hr0 := hid r0
    clear r0 hzz hm hz h HZZ
    generalize (d.gs k).1 = en at *
    generalize (d.gs k).2.1 = he at *
    generalize (d.gs k).2.2.1 = gno at *
    generalize (d.gs k).2.2.2 = asv at *
    have hs2 : he ≤ gno := by omega
    go_wp2_with fail
    refine TH.out.mono ?_
    rintro e wa ⟨rfl, rfl⟩
    clear TH
    have G3 := hid g3
    have GLT := hid g1
    clear g1 g2 g3
    go_upto_region 4 with fail
    have ba : Below w1.heap.size w1 (w1.alloc (Obj.cells #[.int .i64 x0, .int .i64 en, .int .i64 0, .bool false, .int .i64 he, .int .i64 gno, .int .i64 asv] 90)) := by (repeat (first | exact Below.refl _ _ | assumption | refine below_drewN ?_ _ | refine Below.drew ?_ | refine Below.alloc ?_ (by (try simp); (try omega)) _ | refine Below.setCell ?_ (by (try simp); (try omega)) _))
    have S1 := hid (show GS w (w1.alloc (Obj.cells #[.int .i64 x0, .int .i64 en, .int .i64 0, .bool false, .int .i64 he, .int .i64 gno, .int .i64 asv] 90)) base b g d.home.length cc gn w1.heap.size d (x0, en, 0, false, he, gno, asv) from
      ⟨R1.out.below ba, NZ.out.below ba NZ.out.lt, Blk.new w1 _ _, B1.out.trans (ba.mono B1.out.size), by have := GLT.out; omega, HGN.out, B1.out.size⟩)
    clear d0 d1 z0 z1 z2 z3 z4 z5 z6 fzz NZ R1 B1 ba GLT
    generalize (w1.alloc (Obj.cells #[.int .i64 x0, .int .i64 en, .int .i64 0, .bool false, .int .i64 he, .int .i64 gno, .int .i64 asv] 90)) = w2 at *
    generalize w1.heap.size = q at *
    have S2 := hid (S1.out.below (show Below w2.heap.size w2 w2.drew by (repeat (first | exact Below.refl _ _ | assumption | refine below_drewN ?_ _ | refine Below.drew ?_ | refine Below.alloc ?_ (by (try simp); (try omega)) _ | refine Below.setCell ?_ (by (try simp); (try omega)) _))))
    clear S1
    have HSF := hid (fun (wq : World) (hq : wq.cell? ⟨b, 0, none⟩ = some (.int .i64 d.me) ∧ wq.cell? ⟨q, 0, none⟩ = some (.int .i64 x0) ∧ wq.cell? ⟨q, 4, none⟩ = some (.int .i64 he) ∧ wq.cell? ⟨q, 5, none⟩ = some (.int .i64 gno)) => hq)
    refine wpIn_wide.1 (wpIn_region_S (n := 0) (fun wq => wq.cell? ⟨b, 0, none⟩ = some (.int .i64 d.me) ∧ wq.cell? ⟨q, 0, none⟩ = some (.int .i64 x0) ∧ wq.cell? ⟨q, 4, none⟩ = some (.int .i64 he) ∧ wq.cell? ⟨q, 5, none⟩ = some (.int .i64 gno)) [] (by kernel_rfl) ⟨S2.out.R.at_.1, S2.out.xs.1, S2.out.xs.2.2.2.2.1, S2.out.xs.2.2.2.2.2.1⟩ (fun hHeld => ?_))
    generalize w2.drew = w3 at *
    refine wpAnyG_pure 0 (v := ?_) (fun _ => trivial) (by simp only [List.getElem?_toArray, List.getElem?_cons_succ, List.getElem?_cons_zero]; rfl) (by kernel_rfl) (fun _ _ _ _ _ h => h) ⟨(by rfl), (by intro c h; cases h), ?_⟩ hHeld ?_
    rotate_left
    focus (intro wS hSw; (try replace hSw := HSF.out wS hSw); (try dsimp only at hSw); go_simp; (try with_reducible rfl))
    (try simp only [Act.put, List.setIfInBounds_toArray, List.set_cons_zero, List.set_cons_succ])
    refine wpAnyG_take 1 (v := ?_) (fun _ => trivial) (by simp only [List.getElem?_toArray, List.getElem?_cons_succ, List.getElem?_cons_zero]; rfl) (by kernel_rfl) (fun _ _ _ _ _ h => h) ⟨(by rfl), (by intro c h; cases h), ?_⟩ hHeld ?_
    rotate_left
    focus (intro wS hSw; (try replace hSw := HSF.out wS hSw); (try dsimp only at hSw); go_simp; (try with_reducible rfl))
    (try simp only [Act.put, List.setIfInBounds_toArray, List.set_cons_zero, List.set_cons_succ])
    refine wpAnyG_pure 2 (v := ?_) (fun _ => trivial) (by simp only [List.getElem?_toArray, List.getElem?_cons_succ, List.getElem?_cons_zero]; rfl) (by kernel_rfl) (fun _ _ _ _ _ h => h) ⟨(by rfl), (by intro c h; cases h), ?_⟩ hHeld ?_
    rotate_left
    focus (intro wS hSw; (try replace hSw := HSF.out wS hSw); (try dsimp only at hSw); go_simp; (try with_reducible rfl))
    (try simp only [Act.put, List.setIfInBounds_toArray, List.set_cons_zero, List.set_cons_succ])
    refine wpAnyG_pure 3 (v := ?_) (fun _ => trivial) (by simp only [List.getElem?_toArray, List.getElem?_cons_succ, List.getElem?_cons_zero]; rfl) (by kernel_rfl) (fun _ _ _ _ _ h => h) ⟨(by rfl), (by intro c h; cases h), ?_⟩ hHeld ?_
    rotate_left
    focus (intro wS hSw; (try replace hSw := HSF.out wS hSw); (try dsimp only at hSw); go_simp; (try with_reducible rfl))
    (try simp only [Act.put, List.setIfInBounds_toArray, List.set_cons_zero, List.set_cons_succ])
    refine wpAnyG_pure 4 (v := ?_) (fun _ => trivial) (by simp only [List.getElem?_toArray, List.getElem?_cons_succ, List.getElem?_cons_zero]; rfl) (by kernel_rfl) (fun _ _ _ _ _ h => h) ⟨(by rfl), (by intro c h; cases h), ?_⟩ hHeld ?_
    rotate_left
    focus (intro wS hSw; (try replace hSw := HSF.out wS hSw); (try dsimp only at hSw); go_simp; (try with_reducible rfl))
    (try simp only [Act.put, List.setIfInBounds_toArray, List.set_cons_zero, List.set_cons_succ])
    refine wpAnyG_take 5 (v := ?_) (fun _ => trivial) (by simp only [List.getElem?_toArray, List.getElem?_cons_succ, List.getElem?_cons_zero]; rfl) (by kernel_rfl) (fun _ _ _ _ _ h => h) ⟨(by rfl), (by intro c h; cases h), ?_⟩ hHeld ?_
    rotate_left
    focus (intro wS hSw; (try replace hSw := HSF.out wS hSw); (try dsimp only at hSw); go_simp; (try with_reducible rfl))
    (try simp only [Act.put, List.setIfInBounds_toArray, List.set_cons_zero, List.set_cons_succ])
    refine wpAnyG_pure 6 (v := ?_) (fun _ => trivial) (by simp only [List.getElem?_toArray, List.getElem?_cons_succ, List.getElem?_cons_zero]; rfl) (by kernel_rfl) (fun _ _ _ _ _ h => h) ⟨(by rfl), (by intro c h; cases h), ?_⟩ hHeld ?_
    rotate_left
    focus (intro wS hSw; (try replace hSw := HSF.out wS hSw); (try dsimp only at hSw); go_simp; (try with_reducible rfl))
    (try simp only [Act.put, List.setIfInBounds_toArray, List.set_cons_zero, List.set_cons_succ])
    refine wpAnyG_pure 7 (v := ?_) (fun _ => trivial) (by simp only [List.getElem?_toArray, List.getElem?_cons_succ, List.getElem?_cons_zero]; rfl) (by kernel_rfl) (fun _ _ _ _ _ h => h) ⟨(by rfl), (by intro c h; cases h), ?_⟩ hHeld ?_
    rotate_left
    focus (intro wS hSw; (try replace hSw := HSF.out wS hSw); (try dsimp only at hSw); go_simp; (try with_reducible rfl))
    (try simp only [Act.put, List.setIfInBounds_toArray, List.set_cons_zero, List.set_cons_succ])
    refine wpAnyG_pure 8 (v := ?_) (fun _ => trivial) (by simp only [List.getElem?_toArray, List.getElem?_cons_succ, List.getElem?_cons_zero]; rfl) (by kernel_rfl) (fun _ _ _ _ _ h => h) ⟨(by rfl), (by intro c h; cases h), ?_⟩ hHeld ?_
    rotate_left
    focus (intro wS hSw; (try replace hSw := HSF.out wS hSw); (try dsimp only at hSw); go_simp; (try with_reducible rfl))
    (try simp only [Act.put, List.setIfInBounds_toArray, List.set_cons_zero, List.set_cons_succ])
    refine wpAnyG_take 9 (v := ?_) (fun _ => trivial) (by simp only [List.getElem?_toArray, List.getElem?_cons_succ, List.getElem?_cons_zero]; rfl) (by kernel_rfl) (fun _ _ _ _ _ h => h) ⟨(by rfl), (by intro c h; cases h), ?_⟩ hHeld ?_
    rotate_left
    focus (intro wS hSw; (try replace hSw := HSF.out wS hSw); (try dsimp only at hSw); go_simp; (try with_reducible rfl))
    (try simp only [Act.put, List.setIfInBounds_toArray, List.set_cons_zero, List.set_cons_succ])
    refine wpAnyG_pure 10 (v := ?_) (fun _ => trivial) (by simp only [List.getElem?_toArray, List.getElem?_cons_succ, List.getElem?_cons_zero]; rfl) (by kernel_rfl) (fun _ _ _ _ _ h => h) ⟨(by rfl), (by intro c h; cases h), ?_⟩ hHeld ?_
    rotate_left
    focus (intro wS hSw; (try replace hSw := HSF.out wS hSw); (try dsimp only at hSw); go_simp; (try with_reducible rfl))
    (try simp only [Act.put, List.setIfInBounds_toArray, List.set_cons_zero, List.set_cons_succ])
    refine wpAnyG_take 11 (v := ?_) (fun _ => trivial) (by simp only [List.getElem?_toArray, List.getElem?_cons_succ, List.getElem?_cons_zero]; rfl) (by kernel_rfl) (fun _ _ _ _ _ h => h) ⟨(by rfl), (by intro c h; cases h), ?_⟩ hHeld ?_
    rotate_left
    focus (intro wS hSw; (try replace hSw := HSF.out wS hSw); (try dsimp only at hSw); go_simp; (try with_reducible rfl))
    (try simp only [Act.put, List.setIfInBounds_toArray, List.set_cons_zero, List.set_cons_succ])
    refine wpAnyG_pure 12 (v := ?_) (fun _ => trivial) (by simp only [List.getElem?_toArray, List.getElem?_cons_succ, List.getElem?_cons_zero]; rfl) (by kernel_rfl) (fun _ _ _ _ _ h => h) ⟨(by rfl), (by intro c h; cases h), ?_⟩ hHeld ?_
    rotate_left
    focus (intro wS hSw; (try replace hSw := HSF.out wS hSw); (try dsimp only at hSw); go_simp; (try with_reducible rfl))
    (try simp only [Act.put, List.setIfInBounds_toArray, List.set_cons_zero, List.set_cons_succ])
    refine wpAnyG_pure 13 (v := ?_) (fun _ => trivial) (by simp only [List.getElem?_toArray, List.getElem?_cons_succ, List.getElem?_cons_zero]; rfl) (by kernel_rfl) (fun _ _ _ _ _ h => h) ⟨(by rfl), (by intro c h; cases h), ?_⟩ hHeld ?_
    rotate_left
    focus (intro wS hSw; (try replace hSw := HSF.out wS hSw); (try dsimp only at hSw); go_simp; (try with_reducible rfl))
    (try simp only [Act.put, List.setIfInBounds_toArray, List.set_cons_zero, List.set_cons_succ])
    refine wpAnyS_done (by kernel_rfl) ?_
    clear hHeld HSF
    have NN := hid S2.out.N
    have RR := hid S2.out.R
    have BBx := hid S2.out.B
    clear S2
    have x0 := NN.out.cell 0; have x1 := NN.out.cell 1; have x2 := NN.out.cell 2; have x3 := NN.out.cell 3; have fz := NN.out.frozen; have lt0 := NN.out.lt
    simp at x0 x1 x2 x3
    go_wp2_with fail
    obtain ⟨hN, hG⟩ := note4 NN.out rfl (.int .i64 (0)) (.int .i64 (0)) (.int .i64 (0)) (.int .i64 (0))
    have N4 := hid hN
    have G4 := hid hG
    clear hN hG x0 x1 x2 x3 fz lt0
    generalize ((((w3.setCell ⟨gn, 0, none⟩ (.int .i64 (0))).setCell ⟨gn, 1, none⟩ (.int .i64 (0))).setCell ⟨gn, 2, none⟩ (.int .i64 (0))).setCell ⟨gn, 3, none⟩ (.int .i64 (0))) = wz at *
    refine bodyPost_ret (lres_row Tryd.results25 _ _ gn 26 #[.int .i64 (0), .int .i64 (0), .int .i64 (0), .int .i64 (0)] (0, 0) _ rfl N4.out Tryd.underlying26 rfl (by kernel_rfl)) rfl ?_
    exact ⟨rfl, RR.out.note NN.out G4.out, gr_far (gr_below BBx.out _) G4.out (HGN.out)⟩
  have e : backF d (k : Int) = (((2, (k : Int), 0, (d.gs k).2.1), 0), d.setG k (backG (d.gs k))) := by
    unfold backF
    rw [hl, if_pos rfl, if_pos hs]
  have HZ := hid (show zonesL (d.setG k (backG (d.gs k))) = (zonesL d).set k ((zoneOf d k).1, 0, 0, false, (d.gs k).2.1, (d.gs k).2.1, (d.gs k).2.2.2) by
    rw [zonesL_set (d := d) (d' := d.setG k (backG (d.gs k))) rfl hk (fun j hj => zoneOf_setG j hj), zoneG ok hp]; rfl)
  have HME := hid (show (d.setG k (backG (d.gs k))).me = d.me from rfl)
  rw [e]
  clear hl e ok hp
  generalize d.setG k (backG (d.gs k)) = d' at *
  go_enter Tryd.func25, Tryd.ntmps25
  go_upto_region 1 with fail
  have NZ := hid (Blk.new w 26 #[.int .i64 0, .int .i64 0, .int .i64 0, .int .i64 0])
  have B1 := hid (show Below w.heap.size w (w.alloc (Obj.cells #[.int .i64 0, .int .i64 0, .int .i64 0, .int .i64 0] 26)) by (repeat (first | exact Below.refl _ _ | assumption | refine below_drewN ?_ _ | refine Below.drew ?_ | refine Below.alloc ?_ (by (try simp); (try omega)) _ | refine Below.setCell ?_ (by (try simp); (try omega)) _)))
  generalize (w.alloc (Obj.cells #[.int .i64 0, .int .i64 0, .int .i64 0, .int .i64 0] 26)) = w1 at *
  obtain ⟨gn, hgn⟩ : ∃ gn, gn = w.heap.size := ⟨_, rfl⟩
  rw [← hgn] at NZ ⊢
  have HGN := hid (Nat.le_of_eq hgn.symm)
  clear hgn
  have R1 := hid (h.below B1.out)
  have TH := hid (there_yes R1.out hz.1 hz.2)
  obtain ⟨d0, d1⟩ := R1.out.at_
  obtain ⟨g, rfl, g1, g2, g3, -, z0, z1, z2, z3, z4, z5, z6, fzz⟩ := R1.out.zone hk
  obtain ⟨zz, hzz⟩ : ∃ zz, zz = zoneOf d k := ⟨_, rfl⟩
  rw [← hzz] at z0 z1 z2 z3 z4 z5 z6
  have HZZ := hid hzz
  clear hzz
  obtain ⟨x0, x1, x2, x3, x4, x5, x6⟩ := zz
  simp only at z0 z1 z2 z3 z4 z5 z6
  rw [← HZZ.out] at HZ
  simp only at HZ
  have hq := HZZ.out
  rw [hzz] at hq
  simp only [Prod.mk.injEq] at hq
  obtain ⟨r0, rfl, rfl, rfl, rfl, rfl, rfl⟩ := hq
  have hx0 : x0 ≠ d.me := by rw [r0]; exact hm
  have hxb : (x0 == d.me) = false := by simpa using hx0
  have hr0 := hid r0
  clear r0 hzz hm hz h HZZ
  generalize (d.gs k).1 = en at *
  generalize (d.gs k).2.1 = he at *
  generalize (d.gs k).2.2.1 = gno at *
  generalize (d.gs k).2.2.2 = asv at *
  have hs2 : ¬ he ≤ gno := by omega
  go_wp2_with fail
  refine TH.out.mono ?_
  rintro e wa ⟨rfl, rfl⟩
  clear TH
  have G3 := hid g3
  have GLT := hid g1
  clear g1 g2 g3
  go_upto_region 4 with fail
  have ba : Below w1.heap.size w1 (w1.alloc (Obj.cells #[.int .i64 x0, .int .i64 en, .int .i64 0, .bool false, .int .i64 he, .int .i64 gno, .int .i64 asv] 90)) := by (repeat (first | exact Below.refl _ _ | assumption | refine below_drewN ?_ _ | refine Below.drew ?_ | refine Below.alloc ?_ (by (try simp); (try omega)) _ | refine Below.setCell ?_ (by (try simp); (try omega)) _))
  have S1 := hid (show GS w (w1.alloc (Obj.cells #[.int .i64 x0, .int .i64 en, .int .i64 0, .bool false, .int .i64 he, .int .i64 gno, .int .i64 asv] 90)) base b g d.home.length cc gn w1.heap.size d (x0, en, 0, false, he, gno, asv) from
    ⟨R1.out.below ba, NZ.out.below ba NZ.out.lt, Blk.new w1 _ _, B1.out.trans (ba.mono B1.out.size), by have := GLT.out; omega, HGN.out, B1.out.size⟩)
  clear d0 d1 z0 z1 z2 z3 z4 z5 z6 fzz NZ R1 B1 ba GLT
  generalize (w1.alloc (Obj.cells #[.int .i64 x0, .int .i64 en, .int .i64 0, .bool false, .int .i64 he, .int .i64 gno, .int .i64 asv] 90)) = w2 at *
  generalize w1.heap.size = q at *
  have S2 := hid (S1.out.below (show Below w2.heap.size w2 w2.drew by (repeat (first | exact Below.refl _ _ | assumption | refine below_drewN ?_ _ | refine Below.drew ?_ | refine Below.alloc ?_ (by (try simp); (try omega)) _ | refine Below.setCell ?_ (by (try simp); (try omega)) _))))
  clear S1
  have HSF := hid (fun (wq : World) (hq : wq.cell? ⟨b, 0, none⟩ = some (.int .i64 d.me) ∧ wq.cell? ⟨q, 0, none⟩ = some (.int .i64 x0) ∧ wq.cell? ⟨q, 4, none⟩ = some (.int .i64 he) ∧ wq.cell? ⟨q, 5, none⟩ = some (.int .i64 gno)) => hq)
  refine wpIn_wide.1 (wpIn_region_S (n := 0) (fun wq => wq.cell? ⟨b, 0, none⟩ = some (.int .i64 d.me) ∧ wq.cell? ⟨q, 0, none⟩ = some (.int .i64 x0) ∧ wq.cell? ⟨q, 4, none⟩ = some (.int .i64 he) ∧ wq.cell? ⟨q, 5, none⟩ = some (.int .i64 gno)) [] (by kernel_rfl) ⟨S2.out.R.at_.1, S2.out.xs.1, S2.out.xs.2.2.2.2.1, S2.out.xs.2.2.2.2.2.1⟩ (fun hHeld => ?_))
  generalize w2.drew = w3 at *
  refine wpAnyG_pure 0 (v := ?_) (fun _ => trivial) (by simp only [List.getElem?_toArray, List.getElem?_cons_succ, List.getElem?_cons_zero]; rfl) (by kernel_rfl) (fun _ _ _ _ _ h => h) ⟨(by rfl), (by intro c h; cases h), ?_⟩ hHeld ?_
  rotate_left
  focus (intro wS hSw; (try replace hSw := HSF.out wS hSw); (try dsimp only at hSw); go_simp; (try with_reducible rfl))
  (try simp only [Act.put, List.setIfInBounds_toArray, List.set_cons_zero, List.set_cons_succ])
  refine wpAnyG_take 1 (v := ?_) (fun _ => trivial) (by simp only [List.getElem?_toArray, List.getElem?_cons_succ, List.getElem?_cons_zero]; rfl) (by kernel_rfl) (fun _ _ _ _ _ h => h) ⟨(by rfl), (by intro c h; cases h), ?_⟩ hHeld ?_
  rotate_left
  focus (intro wS hSw; (try replace hSw := HSF.out wS hSw); (try dsimp only at hSw); go_simp; (try with_reducible rfl))
  (try simp only [Act.put, List.setIfInBounds_toArray, List.set_cons_zero, List.set_cons_succ])
  refine wpAnyG_pure 2 (v := ?_) (fun _ => trivial) (by simp only [List.getElem?_toArray, List.getElem?_cons_succ, List.getElem?_cons_zero]; rfl) (by kernel_rfl) (fun _ _ _ _ _ h => h) ⟨(by rfl), (by intro c h; cases h), ?_⟩ hHeld ?_
  rotate_left
  focus (intro wS hSw; (try replace hSw := HSF.out wS hSw); (try dsimp only at hSw); go_simp; (try with_reducible rfl))
  (try simp only [Act.put, List.setIfInBounds_toArray, List.set_cons_zero, List.set_cons_succ])
  refine wpAnyG_pure 3 (v := ?_) (fun _ => trivial) (by simp only [List.getElem?_toArray, List.getElem?_cons_succ, List.getElem?_cons_zero]; rfl) (by kernel_rfl) (fun _ _ _ _ _ h => h) ⟨(by rfl), (by intro c h; cases h), ?_⟩ hHeld ?_
  rotate_left
  focus (intro wS hSw; (try replace hSw := HSF.out wS hSw); (try dsimp only at hSw); go_simp; (try with_reducible rfl))
  (try simp only [Act.put, List.setIfInBounds_toArray, List.set_cons_zero, List.set_cons_succ])
  refine wpAnyG_pure 4 (v := ?_) (fun _ => trivial) (by simp only [List.getElem?_toArray, List.getElem?_cons_succ, List.getElem?_cons_zero]; rfl) (by kernel_rfl) (fun _ _ _ _ _ h => h) ⟨(by rfl), (by intro c h; cases h), ?_⟩ hHeld ?_
  rotate_left
  focus (intro wS hSw; (try replace hSw := HSF.out wS hSw); (try dsimp only at hSw); go_simp; (try with_reducible rfl))
  (try simp only [Act.put, List.setIfInBounds_toArray, List.set_cons_zero, List.set_cons_succ])
  refine wpAnyG_take 5 (v := ?_) (fun _ => trivial) (by simp only [List.getElem?_toArray, List.getElem?_cons_succ, List.getElem?_cons_zero]; rfl) (by kernel_rfl) (fun _ _ _ _ _ h => h) ⟨(by rfl), (by intro c h; cases h), ?_⟩ hHeld ?_
  rotate_left
  focus (intro wS hSw; (try replace hSw := HSF.out wS hSw); (try dsimp only at hSw); go_simp; (try with_reducible rfl))
  (try simp only [Act.put, List.setIfInBounds_toArray, List.set_cons_zero, List.set_cons_succ])
  refine wpAnyG_pure 6 (v := ?_) (fun _ => trivial) (by simp only [List.getElem?_toArray, List.getElem?_cons_succ, List.getElem?_cons_zero]; rfl) (by kernel_rfl) (fun _ _ _ _ _ h => h) ⟨(by rfl), (by intro c h; cases h), ?_⟩ hHeld ?_
  rotate_left
  focus (intro wS hSw; (try replace hSw := HSF.out wS hSw); (try dsimp only at hSw); go_simp; (try with_reducible rfl))
  (try simp only [Act.put, List.setIfInBounds_toArray, List.set_cons_zero, List.set_cons_succ])
  refine wpAnyG_pure 7 (v := ?_) (fun _ => trivial) (by simp only [List.getElem?_toArray, List.getElem?_cons_succ, List.getElem?_cons_zero]; rfl) (by kernel_rfl) (fun _ _ _ _ _ h => h) ⟨(by rfl), (by intro c h; cases h), ?_⟩ hHeld ?_
  rotate_left
  focus (intro wS hSw; (try replace hSw := HSF.out wS hSw); (try dsimp only at hSw); go_simp; (try with_reducible rfl))
  (try simp only [Act.put, List.setIfInBounds_toArray, List.set_cons_zero, List.set_cons_succ])
  refine wpAnyG_pure 8 (v := ?_) (fun _ => trivial) (by simp only [List.getElem?_toArray, List.getElem?_cons_succ, List.getElem?_cons_zero]; rfl) (by kernel_rfl) (fun _ _ _ _ _ h => h) ⟨(by rfl), (by intro c h; cases h), ?_⟩ hHeld ?_
  rotate_left
  focus (intro wS hSw; (try replace hSw := HSF.out wS hSw); (try dsimp only at hSw); go_simp; (try with_reducible rfl))
  (try simp only [Act.put, List.setIfInBounds_toArray, List.set_cons_zero, List.set_cons_succ])
  refine wpAnyG_take 9 (v := ?_) (fun _ => trivial) (by simp only [List.getElem?_toArray, List.getElem?_cons_succ, List.getElem?_cons_zero]; rfl) (by kernel_rfl) (fun _ _ _ _ _ h => h) ⟨(by rfl), (by intro c h; cases h), ?_⟩ hHeld ?_
  rotate_left
  focus (intro wS hSw; (try replace hSw := HSF.out wS hSw); (try dsimp only at hSw); go_simp; (try with_reducible rfl))
  (try simp only [Act.put, List.setIfInBounds_toArray, List.set_cons_zero, List.set_cons_succ])
  refine wpAnyG_pure 10 (v := ?_) (fun _ => trivial) (by simp only [List.getElem?_toArray, List.getElem?_cons_succ, List.getElem?_cons_zero]; rfl) (by kernel_rfl) (fun _ _ _ _ _ h => h) ⟨(by rfl), (by intro c h; cases h), ?_⟩ hHeld ?_
  rotate_left
  focus (intro wS hSw; (try replace hSw := HSF.out wS hSw); (try dsimp only at hSw); go_simp; (try with_reducible rfl))
  (try simp only [Act.put, List.setIfInBounds_toArray, List.set_cons_zero, List.set_cons_succ])
  refine wpAnyG_take 11 (v := ?_) (fun _ => trivial) (by simp only [List.getElem?_toArray, List.getElem?_cons_succ, List.getElem?_cons_zero]; rfl) (by kernel_rfl) (fun _ _ _ _ _ h => h) ⟨(by rfl), (by intro c h; cases h), ?_⟩ hHeld ?_
  rotate_left
  focus (intro wS hSw; (try replace hSw := HSF.out wS hSw); (try dsimp only at hSw); go_simp; (try with_reducible rfl))
  (try simp only [Act.put, List.setIfInBounds_toArray, List.set_cons_zero, List.set_cons_succ])
  refine wpAnyG_pure 12 (v := ?_) (fun _ => trivial) (by simp only [List.getElem?_toArray, List.getElem?_cons_succ, List.getElem?_cons_zero]; rfl) (by kernel_rfl) (fun _ _ _ _ _ h => h) ⟨(by rfl), (by intro c h; cases h), ?_⟩ hHeld ?_
  rotate_left
  focus (intro wS hSw; (try replace hSw := HSF.out wS hSw); (try dsimp only at hSw); go_simp; (try with_reducible rfl))
  (try simp only [Act.put, List.setIfInBounds_toArray, List.set_cons_zero, List.set_cons_succ])
  refine wpAnyG_pure 13 (v := ?_) (fun _ => trivial) (by simp only [List.getElem?_toArray, List.getElem?_cons_succ, List.getElem?_cons_zero]; rfl) (by kernel_rfl) (fun _ _ _ _ _ h => h) ⟨(by rfl), (by intro c h; cases h), ?_⟩ hHeld ?_
  rotate_left
  focus (intro wS hSw; (try replace hSw := HSF.out wS hSw); (try dsimp only at hSw); go_simp; (try with_reducible rfl))
  (try simp only [Act.put, List.setIfInBounds_toArray, List.set_cons_zero, List.set_cons_succ])
  refine wpAnyS_done (by kernel_rfl) ?_
  clear hHeld HSF
  obtain ⟨y0, y1, y2, y3, y4, y5, y6, fzq, ltq⟩ := S2.out.xs
  go_upto_region 8 with fail
  have S3 := hid ((S2.out.st (y := (x0, en, 0, false, he, he, asv)) 5 (.int .i64 he) rfl).st (y := (x0, 0, 0, false, he, he, asv)) 1 (.int .i64 0) rfl)
  clear y0 y1 y2 y3 y4 y5 y6 fzq ltq S2
  generalize ((w3.setCell ⟨q, 5, none⟩ (.int .i64 he)).setCell ⟨q, 1, none⟩ (.int .i64 0)) = w4 at *
  have SD := hid (S3.out.below (show Below w4.heap.size w4 w4.drew by (repeat (first | exact Below.refl _ _ | assumption | refine below_drewN ?_ _ | refine Below.drew ?_ | refine Below.alloc ?_ (by (try simp); (try omega)) _ | refine Below.setCell ?_ (by (try simp); (try omega)) _))))
  clear S3
  have hkl := hid (show k < (zonesL d).length by rw [zonesL_len]; exact hk)
  have HSF := hid (fun (wq : World) (hq : wq = w4.drew) => show wq.cell? ⟨b, 1, none⟩ = some (.slice (some ⟨g, 0, none⟩) d.home.length cc) ∧ wq.cell? ⟨q, 0, none⟩ = some (.int .i64 (x0)) ∧ wq.cell? ⟨q, 1, none⟩ = some (.int .i64 (0)) ∧ wq.cell? ⟨q, 2, none⟩ = some (.int .i64 (0)) ∧ wq.cell? ⟨q, 3, none⟩ = some (.bool false) ∧ wq.cell? ⟨q, 4, none⟩ = some (.int .i64 (he)) ∧ wq.cell? ⟨q, 5, none⟩ = some (.int .i64 (he)) ∧ wq.cell? ⟨q, 6, none⟩ = some (.int .i64 (asv)) by
    subst hq
    obtain ⟨y0, y1, y2, y3, y4, y5, y6, -, -⟩ := SD.out.xs
    exact ⟨SD.out.R.at_.2, y0, y1, y2, y3, y4, y5, y6⟩)
  refine wpIn_wide.1 (wpIn_region_S (n := 0) (fun wq => wq = w4.drew) [7] (by kernel_rfl) rfl (fun hHeld => ?_))
  refine wpAnyS_pure 0 (v := ?_) (fun _ => trivial) (by simp only [List.getElem?_toArray, List.getElem?_cons_succ, List.getElem?_cons_zero]; rfl) (by kernel_rfl) (fun _ _ _ _ _ h => h) ⟨rfl, (by intro c h; cases h), ?_⟩ hHeld ?_
  rotate_left
  focus (intro wS hSw; (try replace hSw := HSF.out wS hSw); (try dsimp only at hSw); go_simp; (try with_reducible rfl))
  (try simp only [Act.put, List.setIfInBounds_toArray, List.set_cons_zero, List.set_cons_succ])
  refine wpAnyS_pure 1 (v := ?_) (fun _ => trivial) (by simp only [List.getElem?_toArray, List.getElem?_cons_succ, List.getElem?_cons_zero]; rfl) (by kernel_rfl) (fun _ _ _ _ _ h => h) ⟨rfl, (by intro c h; cases h), ?_⟩ hHeld ?_
  rotate_left
  focus (intro wS hSw; (try replace hSw := HSF.out wS hSw); (try dsimp only at hSw); go_simp; (try with_reducible rfl))
  (try simp only [Act.put, List.setIfInBounds_toArray, List.set_cons_zero, List.set_cons_succ])
  refine wpAnyS_pure 2 (v := ?_) (fun _ => trivial) (by simp only [List.getElem?_toArray, List.getElem?_cons_succ, List.getElem?_cons_zero]; rfl) (by kernel_rfl) (fun _ _ _ _ _ h => h) ⟨rfl, (by intro c h; cases h), ?_⟩ hHeld ?_
  rotate_left
  focus (intro wS hSw; (try replace hSw := HSF.out wS hSw); (try dsimp only at hSw); go_simp; (try with_reducible rfl))
  (try simp only [Act.put, List.setIfInBounds_toArray, List.set_cons_zero, List.set_cons_succ])
  refine wpAnyS_take 3 (v := ?_) (fun _ => trivial) (by simp only [List.getElem?_toArray, List.getElem?_cons_succ, List.getElem?_cons_zero]; rfl) (by kernel_rfl) (fun _ _ _ _ _ h => h) ⟨rfl, (by intro c h; cases h), ?_⟩ hHeld ?_
  rotate_left
  focus (intro wS hSw; (try replace hSw := HSF.out wS hSw); (try dsimp only at hSw); go_simp; (try with_reducible rfl))
  (try simp only [Act.put, List.setIfInBounds_toArray, List.set_cons_zero, List.set_cons_succ])
  refine wpAnyS_pure 4 (v := ?_) (fun _ => trivial) (by simp only [List.getElem?_toArray, List.getElem?_cons_succ, List.getElem?_cons_zero]; rfl) (by kernel_rfl) (fun _ _ _ _ _ h => h) ⟨rfl, (by intro c h; cases h), ?_⟩ hHeld ?_
  rotate_left
  focus (intro wS hSw; (try replace hSw := HSF.out wS hSw); (try dsimp only at hSw); go_simp; (try with_reducible rfl))
  (try simp only [Act.put, List.setIfInBounds_toArray, List.set_cons_zero, List.set_cons_succ])
  refine wpAnyS_take 5 (v := ?_) (fun _ => trivial) (by simp only [List.getElem?_toArray, List.getElem?_cons_succ, List.getElem?_cons_zero]; rfl) (by kernel_rfl) (fun _ _ _ _ _ h => h) ⟨rfl, (by intro c h; cases h), ?_⟩ hHeld ?_
  rotate_left
  focus (intro wS hSw; (try replace hSw := HSF.out wS hSw); (try dsimp only at hSw); go_simp; (try with_reducible rfl))
  (try simp only [Act.put, List.setIfInBounds_toArray, List.set_cons_zero, List.set_cons_succ])
  refine wpAnyS_pure 6 (v := ?_) (fun _ => trivial) (by simp only [List.getElem?_toArray, List.getElem?_cons_succ, List.getElem?_cons_zero]; rfl) (by kernel_rfl) (fun _ _ _ _ _ h => h) ⟨rfl, (by intro c h; cases h), ?_⟩ hHeld ?_
  rotate_left
  focus (intro wS hSw; (try replace hSw := HSF.out wS hSw); (try dsimp only at hSw); go_simp; (try with_reducible rfl))
  (try simp only [Act.put, List.setIfInBounds_toArray, List.set_cons_zero, List.set_cons_succ])
  generalize w4.drew = wd at *
  refine wpAnyS_ready [7] (by kernel_rfl) (by simp) (AllReadyS.consL (by simp only [List.getElem?_toArray, List.getElem?_cons_succ, List.getElem?_cons_zero]; rfl) rfl (by kernel_rfl) (fun K hK => ?_) AllReadyS.nil)
  refine storeZS (fun _ => trivial) (.tmp 44) (.tmp 43) rfl (z := (x0, 0, 0, false, he, he, asv)) rfl rfl SD.out.R.r hkl.out ?_
  intro w9 o9 g9
  refine hK.out _ _ ?_
  (try simp only [Act.put, List.setIfInBounds_toArray, List.set_cons_zero, List.set_cons_succ])
  clear hK K hHeld HSF
  have R9 := hid (SD.out.R.put o9 g9 G3.out HZ.out HME.out)
  have N9 := hid (SD.out.N.grown g9 (fun e => own_blk_ne SD.out.R.r SD.out.N (by decide) (by rw [e]; rfl)))
  have X9 := hid (SD.out.X.grown g9 (fun e => SD.out.qg (by injection e with e; exact e.symm)))
  have GB := hid (gr_tr (gr_below SD.out.B (some g)) g9)
  clear o9 g9 SD
  refine wpAnyS_done (by kernel_rfl) ?_
  have y4 : w9.cell? ⟨q, 4, none⟩ = some (.int .i64 he) := X9.out.cell 4
  have x0 := N9.out.cell 0; have x1 := N9.out.cell 1; have x2 := N9.out.cell 2; have x3 := N9.out.cell 3; have fz := N9.out.frozen; have lt0 := N9.out.lt
  simp at x0 x1 x2 x3
  go_wp2_with fail
  obtain ⟨hN, hG⟩ := note4 N9.out rfl (.int .i64 (2)) (.int .i64 (k : Int)) (.int .i64 (0)) (.int .i64 he)
  have N4 := hid hN
  have G4 := hid hG
  clear hN hG x0 x1 x2 x3 fz lt0
  generalize ((((w9.setCell ⟨gn, 0, none⟩ (.int .i64 (2))).setCell ⟨gn, 1, none⟩ (.int .i64 (k : Int))).setCell ⟨gn, 2, none⟩ (.int .i64 (0))).setCell ⟨gn, 3, none⟩ (.int .i64 he)) = wz at *
  refine bodyPost_ret (lres_row Tryd.results25 _ _ gn 26 #[.int .i64 (2), .int .i64 (k : Int), .int .i64 (0), .int .i64 he] (0, 0) _ rfl N4.out Tryd.underlying26 rfl (by kernel_rfl)) rfl ?_
  exact ⟨rfl, R9.out.note N9.out G4.out, gr_far GB.out G4.out HGN.out⟩
/-- While a call is under way: the desk, the result's box, the zone's box. -/
structure GH (w0 w : World) (base b g n c gn q : Nat) (d : LDk) (ncs : Array Value) (x : Zn) : Prop where
  R : RLd w base b (.slice (some ⟨g, 0, none⟩) n c) d
  N : Blk w gn 26 ncs
  X : Blk w q 90 (znRK.cs x).toArray
  B : Below w0.heap.size w0 w
  qg : g ≠ q
  hn : w0.heap.size ≤ gn
  hq : w0.heap.size ≤ q
section
variable {w0 : World} {q : Nat} {ncs : Array Value} {x y : Zn}
theorem GH.below (h : GH w0 w base b g n c gn q d ncs x) (hb : Below w.heap.size w w') : GH w0 w' base b g n c gn q d ncs x :=
  ⟨h.R.below hb, h.N.below hb h.N.lt, h.X.below hb h.X.lt, h.B.trans (hb.mono h.B.size), h.qg, h.hn, h.hq⟩
theorem GH.st (h : GH w0 w base b g n c gn q d ncs x) (j : Nat) (u : Value) (hx : (znRK.cs x).toArray.setIfInBounds j u = (znRK.cs y).toArray) : GH w0 (w.setCell ⟨q, j, none⟩ u) base b g n c gn q d ncs y :=
  ⟨h.R.grown (gr_set w q j u) (.inr (by intro e; injection e with e; exact h.qg e)) (fun e => by injection e with e; exact Blk.ne_ h.R.k h.X (by decide) e),
    h.N.far (p := ⟨q, j, none⟩) (fun e => Blk.ne_ h.N h.X (by decide) e) u, by rw [← hx]; exact h.X.set_ j u, h.B.setCell (p := ⟨q, j, none⟩) h.hq u, h.qg, h.hn, h.hq⟩
theorem GH.xs (h : GH w0 w base b g n c gn q d ncs x) : w.cell? ⟨q, 0, none⟩ = some (.int .i64 x.1) ∧ w.cell? ⟨q, 1, none⟩ = some (.int .i64 x.2.1) ∧ w.cell? ⟨q, 2, none⟩ = some (.int .i64 x.2.2.1) ∧ w.cell? ⟨q, 3, none⟩ = some (.bool x.2.2.2.1) ∧ w.cell? ⟨q, 4, none⟩ = some (.int .i64 x.2.2.2.2.1) ∧ w.cell? ⟨q, 5, none⟩ = some (.int .i64 x.2.2.2.2.2.1) ∧ w.cell? ⟨q, 6, none⟩ = some (.int .i64 x.2.2.2.2.2.2) ∧ (∀ o, w.frozen? ⟨q, o, none⟩ = false) ∧ q < w.heap.size :=
  ⟨h.X.cell 0, h.X.cell 1, h.X.cell 2, h.X.cell 3, h.X.cell 4, h.X.cell 5, h.X.cell 6, h.X.frozen, h.X.lt⟩
end
theorem alloc_zone (w : World) : (Instr.alloc 90 true (.tuple #[])).run Tryd.prog w = .ok (.pointer (some ⟨w.heap.size, 0, none⟩)) (w.alloc (Obj.cells #[.int .i64 0, .int .i64 0, .int .i64 0, .bool false, .int .i64 0, .int .i64 0, .int .i64 0] 90)) := by kernel_rfl
theorem allocZS {F : Fence} {n0 : Nat} {o : Oper} {a : Act} {w : World} {K : Act → World → Prop} {Q : Exit → Act → World → Prop} (hF : ∀ f, F.fn f) (ho : o.op = .alloc 90)
    (h : K (a.put o.dst (.pointer (some ⟨w.heap.size, 0, none⟩))) (w.alloc (Obj.cells #[.int .i64 0, .int .i64 0, .int .i64 0, .bool false, .int .i64 0, .int .i64 0, .int .i64 0] 90))) : Oper.wpIn F n0 Tryd.prog o a w K Q := by
  refine uponIn_of_value (v := .pointer (some ⟨w.heap.size, 0, none⟩)) (w' := w.alloc (Obj.cells #[.int .i64 0, .int .i64 0, .int .i64 0, .bool false, .int .i64 0, .int .i64 0, .int .i64 0] 90)) hF (by rw [ho]; intro c hc; cases hc) ?_ h
  unfold execOp
  simp only [ho, Sem.run_bind, Sem.run_pure, Result.andThen_ok, alloc_zone]
theorem storeNZ {F : Fence} {n0 : Nat} {o : Oper} {a : Act} {w : World} {K : Act → World → Prop} {Q : Exit → Act → World → Prop} (hF : ∀ f, F.fn f) (x y : Operand) (ho : o.op = .store 90 x y) {z : Zn}
    (hx : a.eval x = .pointer (some ⟨w.heap.size, 0, none⟩)) (hy : a.eval y = .agg (znRK.cs z).toArray) (h : K (a.put o.dst undef) (w.alloc (Obj.cells (znRK.cs z).toArray 90))) :
    Oper.wpIn F n0 Tryd.prog o a (w.alloc (Obj.cells #[.int .i64 0, .int .i64 0, .int .i64 0, .bool false, .int .i64 0, .int .i64 0, .int .i64 0] 90)) K Q := by
  have hr := run_storeAt_new (P := Tryd.prog) w 90 #[.int .i64 0, .int .i64 0, .int .i64 0, .bool false, .int .i64 0, .int .i64 0, .int .i64 0] (znRK.cs z).toArray (by kernel_rfl) rfl (Array.all_eq_true_iff_forall_mem.2 (fun v hv => znRK.one z v (by simpa using hv)))
  unfold Oper.wpIn
  rw [Oper.semAt_plain F _ _ (by rw [ho]; intro c hc; cases hc)]
  have hs : (execOp a.eval o).run Tryd.prog (w.alloc (Obj.cells #[.int .i64 0, .int .i64 0, .int .i64 0, .bool false, .int .i64 0, .int .i64 0, .int .i64 0] 90)) = .ok .skip (w.alloc (Obj.cells (znRK.cs z).toArray 90)) := by
    unfold execOp
    simp only [ho, hx, hy, Sem.run_bind, Sem.run_pure, Result.andThen_ok, hr]
  rw [hs]
  exact ⟨fun f _ => hF f, h⟩
theorem zonesL_same {d : LDk} {k : Nat} (hk : k < d.home.length) : zonesL d = (zonesL d).set k (zoneOf d k) := by
  have h : k < (zonesL d).length := by rw [zonesL_len]; exact hk
  have := zonesL_at d h
  rw [← this, List.set_getElem_self]
set_option maxRecDepth 100000 in
set_option maxHeartbeats 8000000 in
theorem rhear_any (h : RLd w base b v d) (ok : d.Ok) (n : P4) : Calls Tryd.prog 26 #[.pointer (some ⟨b, 0, none⟩), noteV n] w (RLRes w base b v (.int .i64 (hearF d n).1) (hearF d n).2) := by
  obtain ⟨kd, z, u, m⟩ := n
  unfold noteV noteC
  simp only
  by_cases hz : 0 ≤ z ∧ z < d.home.length
  case neg =>
    have e : hearF d (kd, z, u, m) = (4, d) := by
      have hl : ∀ f, lAs d z f = 4 := fun f => by unfold lAs; rw [if_pos (by omega)]
      unfold hearF
      simp only
      by_cases hk : kd < 0 ∨ 3 ≤ kd
      · rw [if_pos hk]
      · rw [if_neg hk, hl, if_neg (by decide)]
    rw [e]
    clear ok e
    go_enter Tryd.func26, Tryd.ntmps26
    go_upto_region 1 with fail
    have NZ := hid (Blk.new w 26 #[.int .i64 kd, .int .i64 z, .int .i64 u, .int .i64 m])
    have B1 := hid (show Below w.heap.size w (w.alloc (Obj.cells #[.int .i64 kd, .int .i64 z, .int .i64 u, .int .i64 m] 26)) by (repeat (first | exact Below.refl _ _ | assumption | refine below_drewN ?_ _ | refine Below.drew ?_ | refine Below.alloc ?_ (by (try simp); (try omega)) _ | refine Below.setCell ?_ (by (try simp); (try omega)) _)))
    generalize (w.alloc (Obj.cells #[.int .i64 kd, .int .i64 z, .int .i64 u, .int .i64 m] 26)) = w1 at *
    obtain ⟨gn, hgn⟩ : ∃ gn, gn = w.heap.size := ⟨_, rfl⟩
    rw [← hgn] at NZ ⊢
    have HGN := hid (Nat.le_of_eq hgn.symm)
    clear hgn
    have R1 := hid (h.below B1.out)
    have a0 := NZ.out.cell 0; have a1 := NZ.out.cell 1; have a2 := NZ.out.cell 2; have a3 := NZ.out.cell 3
    simp at a0 a1 a2 a3
    have TH := hid (there_no R1.out hz)
    clear hz
    go_wp2_with fail
    refine TH.out.mono ?_
    rintro e wa ⟨rfl, rfl⟩
    go_wp2_with fail
    go_ret
    exact ⟨rfl, R1.out, gr_below B1.out _⟩
  obtain ⟨k, rfl⟩ : ∃ k : Nat, z = k := ⟨z.toNat, by omega⟩
  have hk : k < d.home.length := by omega
  obtain ⟨A, cc, rfl⟩ := h.form
  have hk2 : (k : Int) < d.home.length := by omega
  by_cases hk0 : kd < 0
  case pos =>
    have e : hearF d (kd, (k : Int), u, m) = (4, d) := by
      unfold hearF
      rw [if_pos (.inl hk0)]
    rw [e]
    clear ok e
    go_enter Tryd.func26, Tryd.ntmps26
    go_upto_region 1 with fail
    have NZ := hid (Blk.new w 26 #[.int .i64 kd, .int .i64 (k : Int), .int .i64 u, .int .i64 m])
    have B1 := hid (show Below w.heap.size w (w.alloc (Obj.cells #[.int .i64 kd, .int .i64 (k : Int), .int .i64 u, .int .i64 m] 26)) by (repeat (first | exact Below.refl _ _ | assumption | refine below_drewN ?_ _ | refine Below.drew ?_ | refine Below.alloc ?_ (by (try simp); (try omega)) _ | refine Below.setCell ?_ (by (try simp); (try omega)) _)))
    generalize (w.alloc (Obj.cells #[.int .i64 kd, .int .i64 (k : Int), .int .i64 u, .int .i64 m] 26)) = w1 at *
    obtain ⟨gn, hgn⟩ : ∃ gn, gn = w.heap.size := ⟨_, rfl⟩
    rw [← hgn] at NZ ⊢
    have HGN := hid (Nat.le_of_eq hgn.symm)
    clear hgn
    have R1 := hid (h.below B1.out)
    have a0 := NZ.out.cell 0; have a1 := NZ.out.cell 1; have a2 := NZ.out.cell 2; have a3 := NZ.out.cell 3
    simp at a0 a1 a2 a3
    have TH := hid (there_yes R1.out hz.1 hz.2)
    clear hz
    go_wp2_with fail
    refine TH.out.mono ?_
    rintro e wa ⟨rfl, rfl⟩
    go_wp2_with fail
    go_ret
    exact ⟨rfl, R1.out, gr_below B1.out _⟩
  by_cases hk3 : 3 ≤ kd
  case pos =>
    have e : hearF d (kd, (k : Int), u, m) = (4, d) := by
      unfold hearF
      rw [if_pos (.inr hk3)]
    rw [e]
    clear ok e
    go_enter Tryd.func26, Tryd.ntmps26
    go_upto_region 1 with fail
    have NZ := hid (Blk.new w 26 #[.int .i64 kd, .int .i64 (k : Int), .int .i64 u, .int .i64 m])
    have B1 := hid (show Below w.heap.size w (w.alloc (Obj.cells #[.int .i64 kd, .int .i64 (k : Int), .int .i64 u, .int .i64 m] 26)) by (repeat (first | exact Below.refl _ _ | assumption | refine below_drewN ?_ _ | refine Below.drew ?_ | refine Below.alloc ?_ (by (try simp); (try omega)) _ | refine Below.setCell ?_ (by (try simp); (try omega)) _)))
    generalize (w.alloc (Obj.cells #[.int .i64 kd, .int .i64 (k : Int), .int .i64 u, .int .i64 m] 26)) = w1 at *
    obtain ⟨gn, hgn⟩ : ∃ gn, gn = w.heap.size := ⟨_, rfl⟩
    rw [← hgn] at NZ ⊢
    have HGN := hid (Nat.le_of_eq hgn.symm)
    clear hgn
    have R1 := hid (h.below B1.out)
    have a0 := NZ.out.cell 0; have a1 := NZ.out.cell 1; have a2 := NZ.out.cell 2; have a3 := NZ.out.cell 3
    simp at a0 a1 a2 a3
    have TH := hid (there_yes R1.out hz.1 hz.2)
    clear hz
    go_wp2_with fail
    refine TH.out.mono ?_
    rintro e wa ⟨rfl, rfl⟩
    go_wp2_with fail
    go_ret
    exact ⟨rfl, R1.out, gr_below B1.out _⟩
  rcases (show kd = 0 ∨ kd = 1 ∨ kd = 2 by omega) with rfl | rfl | rfl
  all_goals clear hk0 hk3
  · by_cases hm : (zoneOf d k).1 = d.me
    · as_aux_lemma =>
      have hl : lAs d (k : Int) true = 0 := by
        unfold lAs
        rw [if_neg (by omega)]
        have hm' : d.home.getD (k : Int).toNat 0 = d.me := hm
        simp only [decide_eq_true hm', ne_eq] <;> rfl
      have hp : d.gp k = false := by
        cases hq : d.gp k with
        | false => rfl
        | true => have h9 := (home_gp hk).2 hq; rw [(home_hp hk).1 hm] at h9; cases h9
      have hzz := zoneOf_h ok hp
      have hhb := ok.hb k
      have e : hearF d (0, (k : Int), u, m) = (0, d.setH k ((d.hs k).1, (d.hs k).2.1, true)) := by
        unfold hearF
        simp only
        rw [if_neg (by omega)]
        have hd : decide ((0 : Int) ≠ 1) = true := by decide
        rw [hd, hl]
        rfl
      have HZ := hid (show zonesL (d.setH k ((d.hs k).1, (d.hs k).2.1, true)) = (zonesL d).set k (d.me, (d.hs k).1, (d.hs k).2.1, true, 0, 0, 0) by
        rw [zonesL_set (d := d) (d' := d.setH k ((d.hs k).1, (d.hs k).2.1, true)) rfl hk (fun j hj => zoneOf_setH j hj), zoneH ok hp]
        rw [show d.home.getD k 0 = d.me from hm] <;> rfl)
      have HME := hid (show (d.setH k ((d.hs k).1, (d.hs k).2.1, true)).me = d.me from rfl)
      rw [e]
      clear hl e ok hp hhb
      generalize d.setH k ((d.hs k).1, (d.hs k).2.1, true) = d' at *
      go_enter Tryd.func26, Tryd.ntmps26
      go_upto_region 1 with fail
      have NZ := hid (Blk.new w 26 #[.int .i64 0, .int .i64 (k : Int), .int .i64 u, .int .i64 m])
      have B1 := hid (show Below w.heap.size w (w.alloc (Obj.cells #[.int .i64 0, .int .i64 (k : Int), .int .i64 u, .int .i64 m] 26)) by (repeat (first | exact Below.refl _ _ | assumption | refine below_drewN ?_ _ | refine Below.drew ?_ | refine Below.alloc ?_ (by (try simp); (try omega)) _ | refine Below.setCell ?_ (by (try simp); (try omega)) _)))
      generalize (w.alloc (Obj.cells #[.int .i64 0, .int .i64 (k : Int), .int .i64 u, .int .i64 m] 26)) = w1 at *
      obtain ⟨gn, hgn⟩ : ∃ gn, gn = w.heap.size := ⟨_, rfl⟩
      rw [← hgn] at NZ ⊢
      have HGN := hid (Nat.le_of_eq hgn.symm)
      clear hgn
      have R1 := hid (h.below B1.out)
      have a0 := NZ.out.cell 0; have a1 := NZ.out.cell 1; have a2 := NZ.out.cell 2; have a3 := NZ.out.cell 3
      simp at a0 a1 a2 a3
      have TH := hid (there_yes R1.out hz.1 hz.2)
      obtain ⟨d0, d1⟩ := R1.out.at_
      obtain ⟨g, rfl, g1, g2, g3, -, z0, z1, z2, z3, z4, z5, z6, fzz⟩ := R1.out.zone hk
      obtain ⟨zz, hzz⟩ : ∃ zz, zz = zoneOf d k := ⟨_, rfl⟩
      rw [← hzz] at z0 z1 z2 z3 z4 z5 z6
      have HZZ := hid hzz
      clear hzz
      obtain ⟨x0, x1, x2, x3, x4, x5, x6⟩ := zz
      simp only at z0 z1 z2 z3 z4 z5 z6
      have hq := HZZ.out
      rw [hzz] at hq
      simp only [Prod.mk.injEq] at hq
      obtain ⟨r0, rfl, rfl, rfl, rfl, rfl, rfl⟩ := hq
      have r0' : x0 = d.me := r0.trans hm
      clear r0 hzz hm hz h HZZ
      generalize (d.hs k).2.1 = no at *
      generalize (d.hs k).1 = en at *
      generalize (d.hs k).2.2 = x3 at *
      subst r0'
      go_wp2_with fail
      refine TH.out.mono ?_
      rintro e wa ⟨rfl, rfl⟩
      clear TH
      have G3 := hid g3
      have GLT := hid g1
      clear g1 g2 g3
      go_upto_region 3 with fail
      clear a0 a1 a2 a3 d0 d1
      have BD := hid ((Below.refl w1.heap.size w1).drew)
      have HSF := hid (fun (wq : World) (hq : Below w1.heap.size w1 wq) => show wq.cell? ⟨b, 1, none⟩ = some (.slice (some ⟨g, 0, none⟩) d.home.length cc) ∧ wq.cell? ⟨gn, 1, none⟩ = some (.int .i64 (k : Int)) ∧ wq.cell? ⟨g, k * 7, none⟩ = some (.int .i64 d.me) ∧ wq.cell? ⟨g, k * 7 + 1, none⟩ = some (.int .i64 en) ∧ wq.cell? ⟨g, k * 7 + 2, none⟩ = some (.int .i64 no) ∧ wq.cell? ⟨g, k * 7 + 3, none⟩ = some (.bool x3) ∧ wq.cell? ⟨g, k * 7 + 4, none⟩ = some (.int .i64 0) ∧ wq.cell? ⟨g, k * 7 + 5, none⟩ = some (.int .i64 0) ∧ wq.cell? ⟨g, k * 7 + 6, none⟩ = some (.int .i64 0) from
        ⟨(R1.out.below hq).at_.2, (NZ.out.below hq NZ.out.lt).cell 1, (bcell hq g _ GLT.out).trans z0, (bcell hq g _ GLT.out).trans z1, (bcell hq g _ GLT.out).trans z2, (bcell hq g _ GLT.out).trans z3, (bcell hq g _ GLT.out).trans z4, (bcell hq g _ GLT.out).trans z5, (bcell hq g _ GLT.out).trans z6⟩)
      clear z0 z1 z2 z3 z4 z5 z6 fzz
      refine wpIn_wide.1 (wpIn_region_S (n := 0) (fun wq => Below w1.heap.size w1 wq) [9] (by kernel_rfl) BD.out (fun hHeld => ?_))
      generalize w1.drew = wd at *
      refine wpAnyS_pure 0 (v := ?_) (fun _ => trivial) (by simp only [List.getElem?_toArray, List.getElem?_cons_succ, List.getElem?_cons_zero]; rfl) (by kernel_rfl) (fun _ _ _ _ _ h => h) ⟨rfl, (by intro c h; cases h), ?_⟩ hHeld ?_
      rotate_left
      focus (intro wS hSw; (try replace hSw := HSF.out wS hSw); (try dsimp only at hSw); go_simp; (try with_reducible rfl))
      (try simp only [Act.put, List.setIfInBounds_toArray, List.set_cons_zero, List.set_cons_succ])
      refine wpAnyS_pure 1 (v := ?_) (fun _ => trivial) (by simp only [List.getElem?_toArray, List.getElem?_cons_succ, List.getElem?_cons_zero]; rfl) (by kernel_rfl) (fun _ _ _ _ _ h => h) ⟨rfl, (by intro c h; cases h), ?_⟩ hHeld ?_
      rotate_left
      focus (intro wS hSw; (try replace hSw := HSF.out wS hSw); (try dsimp only at hSw); go_simp; (try with_reducible rfl))
      (try simp only [Act.put, List.setIfInBounds_toArray, List.set_cons_zero, List.set_cons_succ])
      refine wpAnyS_pure 2 (v := ?_) (fun _ => trivial) (by simp only [List.getElem?_toArray, List.getElem?_cons_succ, List.getElem?_cons_zero]; rfl) (by kernel_rfl) (fun _ _ _ _ _ h => h) ⟨rfl, (by intro c h; cases h), ?_⟩ hHeld ?_
      rotate_left
      focus (intro wS hSw; (try replace hSw := HSF.out wS hSw); (try dsimp only at hSw); go_simp; (try with_reducible rfl))
      (try simp only [Act.put, List.setIfInBounds_toArray, List.set_cons_zero, List.set_cons_succ])
      refine wpAnyS_take 3 (v := ?_) (fun _ => trivial) (by simp only [List.getElem?_toArray, List.getElem?_cons_succ, List.getElem?_cons_zero]; rfl) (by kernel_rfl) (fun _ _ _ _ _ h => h) ⟨rfl, (by intro c h; cases h), ?_⟩ hHeld ?_
      rotate_left
      focus (intro wS hSw; (try replace hSw := HSF.out wS hSw); (try dsimp only at hSw); go_simp; (try with_reducible rfl))
      (try simp only [Act.put, List.setIfInBounds_toArray, List.set_cons_zero, List.set_cons_succ])
      refine wpAnyS_pure 4 (v := ?_) (fun _ => trivial) (by simp only [List.getElem?_toArray, List.getElem?_cons_succ, List.getElem?_cons_zero]; rfl) (by kernel_rfl) (fun _ _ _ _ _ h => h) ⟨rfl, (by intro c h; cases h), ?_⟩ hHeld ?_
      rotate_left
      focus (intro wS hSw; (try replace hSw := HSF.out wS hSw); (try dsimp only at hSw); go_simp; (try with_reducible rfl))
      (try simp only [Act.put, List.setIfInBounds_toArray, List.set_cons_zero, List.set_cons_succ])
      refine wpAnyS_take 5 (v := ?_) (fun _ => trivial) (by simp only [List.getElem?_toArray, List.getElem?_cons_succ, List.getElem?_cons_zero]; rfl) (by kernel_rfl) (fun _ _ _ _ _ h => h) ⟨rfl, (by intro c h; cases h), ?_⟩ hHeld ?_
      rotate_left
      focus (intro wS hSw; (try replace hSw := HSF.out wS hSw); (try dsimp only at hSw); go_simp; (try with_reducible rfl))
      (try simp only [Act.put, List.setIfInBounds_toArray, List.set_cons_zero, List.set_cons_succ])
      refine wpAnyS_pure 6 (v := ?_) (fun _ => trivial) (by simp only [List.getElem?_toArray, List.getElem?_cons_succ, List.getElem?_cons_zero]; rfl) (by kernel_rfl) (fun _ _ _ _ _ h => h) ⟨rfl, (by intro c h; cases h), ?_⟩ hHeld ?_
      rotate_left
      focus (intro wS hSw; (try replace hSw := HSF.out wS hSw); (try dsimp only at hSw); go_simp; (try with_reducible rfl))
      (try simp only [Act.put, List.setIfInBounds_toArray, List.set_cons_zero, List.set_cons_succ])
      refine wpAnyS_take 7 (v := ?_) (fun _ => trivial) (by simp only [List.getElem?_toArray, List.getElem?_cons_succ, List.getElem?_cons_zero]; rfl) (by kernel_rfl) (fun _ _ _ _ _ h => h) ⟨rfl, (by intro c h; cases h), ?_⟩ hHeld ?_
      rotate_left
      focus (intro wS hSw; (try replace hSw := HSF.out wS hSw); (try dsimp only at hSw); go_simp; (try with_reducible rfl))
      (try simp only [Act.put, List.setIfInBounds_toArray, List.set_cons_zero, List.set_cons_succ])
      refine wpAnyS_ready [8] (by kernel_rfl) (by simp) (AllReadyS.cons (by simp only [List.getElem?_toArray, List.getElem?_cons_succ, List.getElem?_cons_zero]; rfl) rfl (fun K hK => ?_) AllReadyS.nil)
      refine allocZS (fun _ => trivial) rfl ?_
      refine hK.out _ _ (BD.out.alloc BD.out.size _) ?_
      clear hK K hHeld
      (try simp only [Act.put, List.setIfInBounds_toArray, List.set_cons_zero, List.set_cons_succ])
      refine wpAnyS_ready [9] (by kernel_rfl) (by simp) (AllReadyS.consL (by simp only [List.getElem?_toArray, List.getElem?_cons_succ, List.getElem?_cons_zero]; rfl) rfl (by kernel_rfl) (fun K hK => ?_) AllReadyS.nil)
      refine storeNZ (fun _ => trivial) (.tmp 5) (.tmp 28) rfl (z := (d.me, en, no, x3, 0, 0, 0)) rfl rfl ?_
      refine hK.out _ _ ?_
      clear hK K HSF
      (try simp only [Act.put, List.setIfInBounds_toArray, List.set_cons_zero, List.set_cons_succ])
      have ba := hid (BD.out.alloc BD.out.size (Obj.cells (znRK.cs (d.me, en, no, x3, 0, 0, 0)).toArray 90))
      have S1 := hid (show GH w (wd.alloc (Obj.cells (znRK.cs (d.me, en, no, x3, 0, 0, 0)).toArray 90)) base b g d.home.length cc gn wd.heap.size d #[.int .i64 0, .int .i64 (k : Int), .int .i64 u, .int .i64 m] (d.me, en, no, x3, 0, 0, 0) from
        ⟨R1.out.below ba.out, NZ.out.below ba.out NZ.out.lt, Blk.new wd _ _, B1.out.trans (ba.out.mono B1.out.size), by have := GLT.out; have := BD.out.size; omega, HGN.out, Nat.le_trans B1.out.size BD.out.size⟩)
      clear NZ R1 B1 ba GLT BD
      generalize (wd.alloc (Obj.cells (znRK.cs (d.me, en, no, x3, 0, 0, 0)).toArray 90)) = w2 at *
      generalize wd.heap.size = q at *
      refine wpAnyS_done (by kernel_rfl) ?_
      go_upto_region 4 with fail
      have S2 := hid (S1.out.below (show Below w2.heap.size w2 w2.drew by (repeat (first | exact Below.refl _ _ | assumption | refine below_drewN ?_ _ | refine Below.drew ?_ | refine Below.alloc ?_ (by (try simp); (try omega)) _ | refine Below.setCell ?_ (by (try simp); (try omega)) _))))
      clear S1
      have HSF := hid (fun (wq : World) (hq : wq.cell? ⟨b, 0, none⟩ = some (.int .i64 d.me) ∧ wq.cell? ⟨q, 0, none⟩ = some (.int .i64 d.me) ∧ wq.cell? ⟨gn, 0, none⟩ = some (.int .i64 0)) => hq)
      refine wpIn_wide.1 (wpIn_region_S (n := 0) (fun wq => wq.cell? ⟨b, 0, none⟩ = some (.int .i64 d.me) ∧ wq.cell? ⟨q, 0, none⟩ = some (.int .i64 d.me) ∧ wq.cell? ⟨gn, 0, none⟩ = some (.int .i64 0)) [] (by kernel_rfl) ⟨S2.out.R.at_.1, S2.out.xs.1, S2.out.N.cell 0⟩ (fun hHeld => ?_))
      generalize w2.drew = w3 at *
      refine wpAnyS_pure 0 (v := ?_) (fun _ => trivial) (by simp only [List.getElem?_toArray, List.getElem?_cons_succ, List.getElem?_cons_zero]; rfl) (by kernel_rfl) (fun _ _ _ _ _ h => h) ⟨rfl, (by intro c h; cases h), ?_⟩ hHeld ?_
      rotate_left
      focus (intro wS hSw; (try replace hSw := HSF.out wS hSw); (try dsimp only at hSw); go_simp; (try with_reducible rfl))
      (try simp only [Act.put, List.setIfInBounds_toArray, List.set_cons_zero, List.set_cons_succ])
      refine wpAnyS_take 1 (v := ?_) (fun _ => trivial) (by simp only [List.getElem?_toArray, List.getElem?_cons_succ, List.getElem?_cons_zero]; rfl) (by kernel_rfl) (fun _ _ _ _ _ h => h) ⟨rfl, (by intro c h; cases h), ?_⟩ hHeld ?_
      rotate_left
      focus (intro wS hSw; (try replace hSw := HSF.out wS hSw); (try dsimp only at hSw); go_simp; (try with_reducible rfl))
      (try simp only [Act.put, List.setIfInBounds_toArray, List.set_cons_zero, List.set_cons_succ])
      refine wpAnyS_pure 2 (v := ?_) (fun _ => trivial) (by simp only [List.getElem?_toArray, List.getElem?_cons_succ, List.getElem?_cons_zero]; rfl) (by kernel_rfl) (fun _ _ _ _ _ h => h) ⟨rfl, (by intro c h; cases h), ?_⟩ hHeld ?_
      rotate_left
      focus (intro wS hSw; (try replace hSw := HSF.out wS hSw); (try dsimp only at hSw); go_simp; (try with_reducible rfl))
      (try simp only [Act.put, List.setIfInBounds_toArray, List.set_cons_zero, List.set_cons_succ])
      refine wpAnyS_pure 3 (v := ?_) (fun _ => trivial) (by simp only [List.getElem?_toArray, List.getElem?_cons_succ, List.getElem?_cons_zero]; rfl) (by kernel_rfl) (fun _ _ _ _ _ h => h) ⟨rfl, (by intro c h; cases h), ?_⟩ hHeld ?_
      rotate_left
      focus (intro wS hSw; (try replace hSw := HSF.out wS hSw); (try dsimp only at hSw); go_simp; (try with_reducible rfl))
      (try simp only [Act.put, List.setIfInBounds_toArray, List.set_cons_zero, List.set_cons_succ])
      refine wpAnyS_pure 4 (v := ?_) (fun _ => trivial) (by simp only [List.getElem?_toArray, List.getElem?_cons_succ, List.getElem?_cons_zero]; rfl) (by kernel_rfl) (fun _ _ _ _ _ h => h) ⟨rfl, (by intro c h; cases h), ?_⟩ hHeld ?_
      rotate_left
      focus (intro wS hSw; (try replace hSw := HSF.out wS hSw); (try dsimp only at hSw); go_simp; (try with_reducible rfl))
      (try simp only [Act.put, List.setIfInBounds_toArray, List.set_cons_zero, List.set_cons_succ])
      refine wpAnyS_take 5 (v := ?_) (fun _ => trivial) (by simp only [List.getElem?_toArray, List.getElem?_cons_succ, List.getElem?_cons_zero]; rfl) (by kernel_rfl) (fun _ _ _ _ _ h => h) ⟨rfl, (by intro c h; cases h), ?_⟩ hHeld ?_
      rotate_left
      focus (intro wS hSw; (try replace hSw := HSF.out wS hSw); (try dsimp only at hSw); go_simp; (try with_reducible rfl))
      (try simp only [Act.put, List.setIfInBounds_toArray, List.set_cons_zero, List.set_cons_succ])
      refine wpAnyS_pure 6 (v := ?_) (fun _ => trivial) (by simp only [List.getElem?_toArray, List.getElem?_cons_succ, List.getElem?_cons_zero]; rfl) (by kernel_rfl) (fun _ _ _ _ _ h => h) ⟨rfl, (by intro c h; cases h), ?_⟩ hHeld ?_
      rotate_left
      focus (intro wS hSw; (try replace hSw := HSF.out wS hSw); (try dsimp only at hSw); go_simp; (try with_reducible rfl))
      (try simp only [Act.put, List.setIfInBounds_toArray, List.set_cons_zero, List.set_cons_succ])
      refine wpAnyS_pure 7 (v := ?_) (fun _ => trivial) (by simp only [List.getElem?_toArray, List.getElem?_cons_succ, List.getElem?_cons_zero]; rfl) (by kernel_rfl) (fun _ _ _ _ _ h => h) ⟨rfl, (by intro c h; cases h), ?_⟩ hHeld ?_
      rotate_left
      focus (intro wS hSw; (try replace hSw := HSF.out wS hSw); (try dsimp only at hSw); go_simp; (try with_reducible rfl))
      (try simp only [Act.put, List.setIfInBounds_toArray, List.set_cons_zero, List.set_cons_succ])
      refine wpAnyS_take 8 (v := ?_) (fun _ => trivial) (by simp only [List.getElem?_toArray, List.getElem?_cons_succ, List.getElem?_cons_zero]; rfl) (by kernel_rfl) (fun _ _ _ _ _ h => h) ⟨rfl, (by intro c h; cases h), ?_⟩ hHeld ?_
      rotate_left
      focus (intro wS hSw; (try replace hSw := HSF.out wS hSw); (try dsimp only at hSw); go_simp; (try with_reducible rfl))
      (try simp only [Act.put, List.setIfInBounds_toArray, List.set_cons_zero, List.set_cons_succ])
      refine wpAnyS_pure 9 (v := ?_) (fun _ => trivial) (by simp only [List.getElem?_toArray, List.getElem?_cons_succ, List.getElem?_cons_zero]; rfl) (by kernel_rfl) (fun _ _ _ _ _ h => h) ⟨rfl, (by intro c h; cases h), ?_⟩ hHeld ?_
      rotate_left
      focus (intro wS hSw; (try replace hSw := HSF.out wS hSw); (try dsimp only at hSw); go_simp; (try with_reducible rfl))
      (try simp only [Act.put, List.setIfInBounds_toArray, List.set_cons_zero, List.set_cons_succ])
      refine wpAnyS_pure 10 (v := ?_) (fun _ => trivial) (by simp only [List.getElem?_toArray, List.getElem?_cons_succ, List.getElem?_cons_zero]; rfl) (by kernel_rfl) (fun _ _ _ _ _ h => h) ⟨rfl, (by intro c h; cases h), ?_⟩ hHeld ?_
      rotate_left
      focus (intro wS hSw; (try replace hSw := HSF.out wS hSw); (try dsimp only at hSw); go_simp; (try with_reducible rfl))
      (try simp only [Act.put, List.setIfInBounds_toArray, List.set_cons_zero, List.set_cons_succ])
      refine wpAnyS_done (by kernel_rfl) ?_
      clear hHeld HSF
      obtain ⟨y0, y1, y2, y3, y4, y5, y6, fzq, ltq⟩ := S2.out.xs
      have a0 := S2.out.N.cell 0; have a1 := S2.out.N.cell 1; have a2 := S2.out.N.cell 2; have a3 := S2.out.N.cell 3
      simp at a0 a1 a2 a3
      go_upto_region 16 with fail
      have S3 := hid (S2.out.st (y := (d.me, en, no, true, 0, 0, 0)) 3 (.bool true) rfl)
      clear y0 y1 y2 y3 y4 y5 y6 fzq ltq S2 a0 a1 a2 a3
      generalize (w3.setCell ⟨q, 3, none⟩ (.bool true)) = w4 at *
      have SD := hid (S3.out.below (show Below w4.heap.size w4 w4.drew by (repeat (first | exact Below.refl _ _ | assumption | refine below_drewN ?_ _ | refine Below.drew ?_ | refine Below.alloc ?_ (by (try simp); (try omega)) _ | refine Below.setCell ?_ (by (try simp); (try omega)) _))))
      clear S3
      have hkl := hid (show k < (zonesL d).length by rw [zonesL_len]; exact hk)
      have HSF := hid (fun (wq : World) (hq : wq = w4.drew) => show wq.cell? ⟨gn, 1, none⟩ = some (.int .i64 (k : Int)) ∧ wq.cell? ⟨b, 1, none⟩ = some (.slice (some ⟨g, 0, none⟩) d.home.length cc) ∧ wq.cell? ⟨q, 0, none⟩ = some (.int .i64 (d.me)) ∧ wq.cell? ⟨q, 1, none⟩ = some (.int .i64 (en)) ∧ wq.cell? ⟨q, 2, none⟩ = some (.int .i64 (no)) ∧ wq.cell? ⟨q, 3, none⟩ = some (.bool true) ∧ wq.cell? ⟨q, 4, none⟩ = some (.int .i64 (0)) ∧ wq.cell? ⟨q, 5, none⟩ = some (.int .i64 (0)) ∧ wq.cell? ⟨q, 6, none⟩ = some (.int .i64 (0)) by
        subst hq
        obtain ⟨y0, y1, y2, y3, y4, y5, y6, -, -⟩ := SD.out.xs
        exact ⟨SD.out.N.cell 1, SD.out.R.at_.2, y0, y1, y2, y3, y4, y5, y6⟩)
      refine wpIn_wide.1 (wpIn_region_S (n := 0) (fun wq => wq = w4.drew) [8] (by kernel_rfl) rfl (fun hHeld => ?_))
      refine wpAnyS_pure 0 (v := ?_) (fun _ => trivial) (by simp only [List.getElem?_toArray, List.getElem?_cons_succ, List.getElem?_cons_zero]; rfl) (by kernel_rfl) (fun _ _ _ _ _ h => h) ⟨rfl, (by intro c h; cases h), ?_⟩ hHeld ?_
      rotate_left
      focus (intro wS hSw; (try replace hSw := HSF.out wS hSw); (try dsimp only at hSw); go_simp; (try with_reducible rfl))
      (try simp only [Act.put, List.setIfInBounds_toArray, List.set_cons_zero, List.set_cons_succ])
      refine wpAnyS_pure 1 (v := ?_) (fun _ => trivial) (by simp only [List.getElem?_toArray, List.getElem?_cons_succ, List.getElem?_cons_zero]; rfl) (by kernel_rfl) (fun _ _ _ _ _ h => h) ⟨rfl, (by intro c h; cases h), ?_⟩ hHeld ?_
      rotate_left
      focus (intro wS hSw; (try replace hSw := HSF.out wS hSw); (try dsimp only at hSw); go_simp; (try with_reducible rfl))
      (try simp only [Act.put, List.setIfInBounds_toArray, List.set_cons_zero, List.set_cons_succ])
      refine wpAnyS_pure 2 (v := ?_) (fun _ => trivial) (by simp only [List.getElem?_toArray, List.getElem?_cons_succ, List.getElem?_cons_zero]; rfl) (by kernel_rfl) (fun _ _ _ _ _ h => h) ⟨rfl, (by intro c h; cases h), ?_⟩ hHeld ?_
      rotate_left
      focus (intro wS hSw; (try replace hSw := HSF.out wS hSw); (try dsimp only at hSw); go_simp; (try with_reducible rfl))
      (try simp only [Act.put, List.setIfInBounds_toArray, List.set_cons_zero, List.set_cons_succ])
      refine wpAnyS_take 3 (v := ?_) (fun _ => trivial) (by simp only [List.getElem?_toArray, List.getElem?_cons_succ, List.getElem?_cons_zero]; rfl) (by kernel_rfl) (fun _ _ _ _ _ h => h) ⟨rfl, (by intro c h; cases h), ?_⟩ hHeld ?_
      rotate_left
      focus (intro wS hSw; (try replace hSw := HSF.out wS hSw); (try dsimp only at hSw); go_simp; (try with_reducible rfl))
      (try simp only [Act.put, List.setIfInBounds_toArray, List.set_cons_zero, List.set_cons_succ])
      refine wpAnyS_pure 4 (v := ?_) (fun _ => trivial) (by simp only [List.getElem?_toArray, List.getElem?_cons_succ, List.getElem?_cons_zero]; rfl) (by kernel_rfl) (fun _ _ _ _ _ h => h) ⟨rfl, (by intro c h; cases h), ?_⟩ hHeld ?_
      rotate_left
      focus (intro wS hSw; (try replace hSw := HSF.out wS hSw); (try dsimp only at hSw); go_simp; (try with_reducible rfl))
      (try simp only [Act.put, List.setIfInBounds_toArray, List.set_cons_zero, List.set_cons_succ])
      refine wpAnyS_take 5 (v := ?_) (fun _ => trivial) (by simp only [List.getElem?_toArray, List.getElem?_cons_succ, List.getElem?_cons_zero]; rfl) (by kernel_rfl) (fun _ _ _ _ _ h => h) ⟨rfl, (by intro c h; cases h), ?_⟩ hHeld ?_
      rotate_left
      focus (intro wS hSw; (try replace hSw := HSF.out wS hSw); (try dsimp only at hSw); go_simp; (try with_reducible rfl))
      (try simp only [Act.put, List.setIfInBounds_toArray, List.set_cons_zero, List.set_cons_succ])
      refine wpAnyS_take 6 (v := ?_) (fun _ => trivial) (by simp only [List.getElem?_toArray, List.getElem?_cons_succ, List.getElem?_cons_zero]; rfl) (by kernel_rfl) (fun _ _ _ _ _ h => h) ⟨rfl, (by intro c h; cases h), ?_⟩ hHeld ?_
      rotate_left
      focus (intro wS hSw; (try replace hSw := HSF.out wS hSw); (try dsimp only at hSw); go_simp; (try with_reducible rfl))
      (try simp only [Act.put, List.setIfInBounds_toArray, List.set_cons_zero, List.set_cons_succ])
      refine wpAnyS_pure 7 (v := ?_) (fun _ => trivial) (by simp only [List.getElem?_toArray, List.getElem?_cons_succ, List.getElem?_cons_zero]; rfl) (by kernel_rfl) (fun _ _ _ _ _ h => h) ⟨rfl, (by intro c h; cases h), ?_⟩ hHeld ?_
      rotate_left
      focus (intro wS hSw; (try replace hSw := HSF.out wS hSw); (try dsimp only at hSw); go_simp; (try with_reducible rfl))
      (try simp only [Act.put, List.setIfInBounds_toArray, List.set_cons_zero, List.set_cons_succ])
      generalize w4.drew = wd at *
      refine wpAnyS_ready [8] (by kernel_rfl) (by simp) (AllReadyS.consL (by simp only [List.getElem?_toArray, List.getElem?_cons_succ, List.getElem?_cons_zero]; rfl) rfl (by kernel_rfl) (fun K hK => ?_) AllReadyS.nil)
      refine storeZS (fun _ => trivial) (.tmp 79) (.tmp 78) rfl (z := (d.me, en, no, true, 0, 0, 0)) rfl rfl SD.out.R.r hkl.out ?_
      intro w9 o9 g9
      refine hK.out _ _ ?_
      (try simp only [Act.put, List.setIfInBounds_toArray, List.set_cons_zero, List.set_cons_succ])
      clear hK K hHeld HSF
      have R9 := hid (SD.out.R.put o9 g9 G3.out HZ.out HME.out)
      have N9 := hid (SD.out.N.grown g9 (fun e => own_blk_ne SD.out.R.r SD.out.N (by decide) (by rw [e]; rfl)))
      have X9 := hid (SD.out.X.grown g9 (fun e => SD.out.qg (by injection e with e; exact e.symm)))
      have GB := hid (gr_tr (gr_below SD.out.B (some g)) g9)
      clear o9 g9 SD
      refine wpAnyS_done (by kernel_rfl) ?_
      go_wp2_with fail
      go_ret
      exact ⟨rfl, R9.out, GB.out⟩
    · as_aux_lemma =>
      have hl : lAs d (k : Int) true = 7 := by
        unfold lAs
        rw [if_neg (by omega)]
        have hm' : ¬ d.home.getD (k : Int).toNat 0 = d.me := hm
        simp only [decide_eq_false hm', ne_eq] <;> rfl
      have hp : d.hp k = false := by
        cases hq : d.hp k with
        | false => rfl
        | true => exact absurd ((home_hp hk).2 hq) hm
      have hzz := zoneOf_g ok hp
      have e : hearF d (0, (k : Int), u, m) = (7, d) := by
        unfold hearF
        simp only
        rw [if_neg (by omega)]
        have hd : decide ((0 : Int) ≠ 1) = true := by decide
        rw [hd, hl]
        rfl
      rw [e]
      clear hl e ok hp
      go_enter Tryd.func26, Tryd.ntmps26
      go_upto_region 1 with fail
      have NZ := hid (Blk.new w 26 #[.int .i64 0, .int .i64 (k : Int), .int .i64 u, .int .i64 m])
      have B1 := hid (show Below w.heap.size w (w.alloc (Obj.cells #[.int .i64 0, .int .i64 (k : Int), .int .i64 u, .int .i64 m] 26)) by (repeat (first | exact Below.refl _ _ | assumption | refine below_drewN ?_ _ | refine Below.drew ?_ | refine Below.alloc ?_ (by (try simp); (try omega)) _ | refine Below.setCell ?_ (by (try simp); (try omega)) _)))
      generalize (w.alloc (Obj.cells #[.int .i64 0, .int .i64 (k : Int), .int .i64 u, .int .i64 m] 26)) = w1 at *
      obtain ⟨gn, hgn⟩ : ∃ gn, gn = w.heap.size := ⟨_, rfl⟩
      rw [← hgn] at NZ ⊢
      have HGN := hid (Nat.le_of_eq hgn.symm)
      clear hgn
      have R1 := hid (h.below B1.out)
      have a0 := NZ.out.cell 0; have a1 := NZ.out.cell 1; have a2 := NZ.out.cell 2; have a3 := NZ.out.cell 3
      simp at a0 a1 a2 a3
      have TH := hid (there_yes R1.out hz.1 hz.2)
      obtain ⟨d0, d1⟩ := R1.out.at_
      obtain ⟨g, rfl, g1, g2, g3, -, z0, z1, z2, z3, z4, z5, z6, fzz⟩ := R1.out.zone hk
      obtain ⟨zz, hzz⟩ : ∃ zz, zz = zoneOf d k := ⟨_, rfl⟩
      rw [← hzz] at z0 z1 z2 z3 z4 z5 z6
      have HZZ := hid hzz
      clear hzz
      obtain ⟨x0, x1, x2, x3, x4, x5, x6⟩ := zz
      simp only at z0 z1 z2 z3 z4 z5 z6
      have hq := HZZ.out
      rw [hzz] at hq
      simp only [Prod.mk.injEq] at hq
      obtain ⟨r0, rfl, rfl, rfl, rfl, rfl, rfl⟩ := hq
      have hx0 : x0 ≠ d.me := by rw [r0]; exact hm
      have hxb : (x0 == d.me) = false := by simpa using hx0
      have hr0 := hid r0
      clear r0 hzz hm hz h HZZ
      generalize (d.gs k).1 = en at *
      generalize (d.gs k).2.1 = he at *
      generalize (d.gs k).2.2.1 = gno at *
      generalize (d.gs k).2.2.2 = asv at *
      go_wp2_with fail
      refine TH.out.mono ?_
      rintro e wa ⟨rfl, rfl⟩
      clear TH
      have G3 := hid g3
      have GLT := hid g1
      clear g1 g2 g3
      go_upto_region 3 with fail
      clear a0 a1 a2 a3 d0 d1
      have BD := hid ((Below.refl w1.heap.size w1).drew)
      have HSF := hid (fun (wq : World) (hq : Below w1.heap.size w1 wq) => show wq.cell? ⟨b, 1, none⟩ = some (.slice (some ⟨g, 0, none⟩) d.home.length cc) ∧ wq.cell? ⟨gn, 1, none⟩ = some (.int .i64 (k : Int)) ∧ wq.cell? ⟨g, k * 7, none⟩ = some (.int .i64 x0) ∧ wq.cell? ⟨g, k * 7 + 1, none⟩ = some (.int .i64 en) ∧ wq.cell? ⟨g, k * 7 + 2, none⟩ = some (.int .i64 0) ∧ wq.cell? ⟨g, k * 7 + 3, none⟩ = some (.bool false) ∧ wq.cell? ⟨g, k * 7 + 4, none⟩ = some (.int .i64 he) ∧ wq.cell? ⟨g, k * 7 + 5, none⟩ = some (.int .i64 gno) ∧ wq.cell? ⟨g, k * 7 + 6, none⟩ = some (.int .i64 asv) from
        ⟨(R1.out.below hq).at_.2, (NZ.out.below hq NZ.out.lt).cell 1, (bcell hq g _ GLT.out).trans z0, (bcell hq g _ GLT.out).trans z1, (bcell hq g _ GLT.out).trans z2, (bcell hq g _ GLT.out).trans z3, (bcell hq g _ GLT.out).trans z4, (bcell hq g _ GLT.out).trans z5, (bcell hq g _ GLT.out).trans z6⟩)
      clear z0 z1 z2 z3 z4 z5 z6 fzz
      refine wpIn_wide.1 (wpIn_region_S (n := 0) (fun wq => Below w1.heap.size w1 wq) [9] (by kernel_rfl) BD.out (fun hHeld => ?_))
      generalize w1.drew = wd at *
      refine wpAnyS_pure 0 (v := ?_) (fun _ => trivial) (by simp only [List.getElem?_toArray, List.getElem?_cons_succ, List.getElem?_cons_zero]; rfl) (by kernel_rfl) (fun _ _ _ _ _ h => h) ⟨rfl, (by intro c h; cases h), ?_⟩ hHeld ?_
      rotate_left
      focus (intro wS hSw; (try replace hSw := HSF.out wS hSw); (try dsimp only at hSw); go_simp; (try with_reducible rfl))
      (try simp only [Act.put, List.setIfInBounds_toArray, List.set_cons_zero, List.set_cons_succ])
      refine wpAnyS_pure 1 (v := ?_) (fun _ => trivial) (by simp only [List.getElem?_toArray, List.getElem?_cons_succ, List.getElem?_cons_zero]; rfl) (by kernel_rfl) (fun _ _ _ _ _ h => h) ⟨rfl, (by intro c h; cases h), ?_⟩ hHeld ?_
      rotate_left
      focus (intro wS hSw; (try replace hSw := HSF.out wS hSw); (try dsimp only at hSw); go_simp; (try with_reducible rfl))
      (try simp only [Act.put, List.setIfInBounds_toArray, List.set_cons_zero, List.set_cons_succ])
      refine wpAnyS_pure 2 (v := ?_) (fun _ => trivial) (by simp only [List.getElem?_toArray, List.getElem?_cons_succ, List.getElem?_cons_zero]; rfl) (by kernel_rfl) (fun _ _ _ _ _ h => h) ⟨rfl, (by intro c h; cases h), ?_⟩ hHeld ?_
      rotate_left
      focus (intro wS hSw; (try replace hSw := HSF.out wS hSw); (try dsimp only at hSw); go_simp; (try with_reducible rfl))
      (try simp only [Act.put, List.setIfInBounds_toArray, List.set_cons_zero, List.set_cons_succ])
      refine wpAnyS_take 3 (v := ?_) (fun _ => trivial) (by simp only [List.getElem?_toArray, List.getElem?_cons_succ, List.getElem?_cons_zero]; rfl) (by kernel_rfl) (fun _ _ _ _ _ h => h) ⟨rfl, (by intro c h; cases h), ?_⟩ hHeld ?_
      rotate_left
      focus (intro wS hSw; (try replace hSw := HSF.out wS hSw); (try dsimp only at hSw); go_simp; (try with_reducible rfl))
      (try simp only [Act.put, List.setIfInBounds_toArray, List.set_cons_zero, List.set_cons_succ])
      refine wpAnyS_pure 4 (v := ?_) (fun _ => trivial) (by simp only [List.getElem?_toArray, List.getElem?_cons_succ, List.getElem?_cons_zero]; rfl) (by kernel_rfl) (fun _ _ _ _ _ h => h) ⟨rfl, (by intro c h; cases h), ?_⟩ hHeld ?_
      rotate_left
      focus (intro wS hSw; (try replace hSw := HSF.out wS hSw); (try dsimp only at hSw); go_simp; (try with_reducible rfl))
      (try simp only [Act.put, List.setIfInBounds_toArray, List.set_cons_zero, List.set_cons_succ])
      refine wpAnyS_take 5 (v := ?_) (fun _ => trivial) (by simp only [List.getElem?_toArray, List.getElem?_cons_succ, List.getElem?_cons_zero]; rfl) (by kernel_rfl) (fun _ _ _ _ _ h => h) ⟨rfl, (by intro c h; cases h), ?_⟩ hHeld ?_
      rotate_left
      focus (intro wS hSw; (try replace hSw := HSF.out wS hSw); (try dsimp only at hSw); go_simp; (try with_reducible rfl))
      (try simp only [Act.put, List.setIfInBounds_toArray, List.set_cons_zero, List.set_cons_succ])
      refine wpAnyS_pure 6 (v := ?_) (fun _ => trivial) (by simp only [List.getElem?_toArray, List.getElem?_cons_succ, List.getElem?_cons_zero]; rfl) (by kernel_rfl) (fun _ _ _ _ _ h => h) ⟨rfl, (by intro c h; cases h), ?_⟩ hHeld ?_
      rotate_left
      focus (intro wS hSw; (try replace hSw := HSF.out wS hSw); (try dsimp only at hSw); go_simp; (try with_reducible rfl))
      (try simp only [Act.put, List.setIfInBounds_toArray, List.set_cons_zero, List.set_cons_succ])
      refine wpAnyS_take 7 (v := ?_) (fun _ => trivial) (by simp only [List.getElem?_toArray, List.getElem?_cons_succ, List.getElem?_cons_zero]; rfl) (by kernel_rfl) (fun _ _ _ _ _ h => h) ⟨rfl, (by intro c h; cases h), ?_⟩ hHeld ?_
      rotate_left
      focus (intro wS hSw; (try replace hSw := HSF.out wS hSw); (try dsimp only at hSw); go_simp; (try with_reducible rfl))
      (try simp only [Act.put, List.setIfInBounds_toArray, List.set_cons_zero, List.set_cons_succ])
      refine wpAnyS_ready [8] (by kernel_rfl) (by simp) (AllReadyS.cons (by simp only [List.getElem?_toArray, List.getElem?_cons_succ, List.getElem?_cons_zero]; rfl) rfl (fun K hK => ?_) AllReadyS.nil)
      refine allocZS (fun _ => trivial) rfl ?_
      refine hK.out _ _ (BD.out.alloc BD.out.size _) ?_
      clear hK K hHeld
      (try simp only [Act.put, List.setIfInBounds_toArray, List.set_cons_zero, List.set_cons_succ])
      refine wpAnyS_ready [9] (by kernel_rfl) (by simp) (AllReadyS.consL (by simp only [List.getElem?_toArray, List.getElem?_cons_succ, List.getElem?_cons_zero]; rfl) rfl (by kernel_rfl) (fun K hK => ?_) AllReadyS.nil)
      refine storeNZ (fun _ => trivial) (.tmp 5) (.tmp 28) rfl (z := (x0, en, 0, false, he, gno, asv)) rfl rfl ?_
      refine hK.out _ _ ?_
      clear hK K HSF
      (try simp only [Act.put, List.setIfInBounds_toArray, List.set_cons_zero, List.set_cons_succ])
      have ba := hid (BD.out.alloc BD.out.size (Obj.cells (znRK.cs (x0, en, 0, false, he, gno, asv)).toArray 90))
      have S1 := hid (show GH w (wd.alloc (Obj.cells (znRK.cs (x0, en, 0, false, he, gno, asv)).toArray 90)) base b g d.home.length cc gn wd.heap.size d #[.int .i64 0, .int .i64 (k : Int), .int .i64 u, .int .i64 m] (x0, en, 0, false, he, gno, asv) from
        ⟨R1.out.below ba.out, NZ.out.below ba.out NZ.out.lt, Blk.new wd _ _, B1.out.trans (ba.out.mono B1.out.size), by have := GLT.out; have := BD.out.size; omega, HGN.out, Nat.le_trans B1.out.size BD.out.size⟩)
      clear NZ R1 B1 ba GLT BD
      generalize (wd.alloc (Obj.cells (znRK.cs (x0, en, 0, false, he, gno, asv)).toArray 90)) = w2 at *
      generalize wd.heap.size = q at *
      refine wpAnyS_done (by kernel_rfl) ?_
      go_upto_region 4 with fail
      have S2 := hid (S1.out.below (show Below w2.heap.size w2 w2.drew by (repeat (first | exact Below.refl _ _ | assumption | refine below_drewN ?_ _ | refine Below.drew ?_ | refine Below.alloc ?_ (by (try simp); (try omega)) _ | refine Below.setCell ?_ (by (try simp); (try omega)) _))))
      clear S1
      have HSF := hid (fun (wq : World) (hq : wq.cell? ⟨b, 0, none⟩ = some (.int .i64 d.me) ∧ wq.cell? ⟨q, 0, none⟩ = some (.int .i64 x0) ∧ wq.cell? ⟨gn, 0, none⟩ = some (.int .i64 0)) => hq)
      refine wpIn_wide.1 (wpIn_region_S (n := 0) (fun wq => wq.cell? ⟨b, 0, none⟩ = some (.int .i64 d.me) ∧ wq.cell? ⟨q, 0, none⟩ = some (.int .i64 x0) ∧ wq.cell? ⟨gn, 0, none⟩ = some (.int .i64 0)) [] (by kernel_rfl) ⟨S2.out.R.at_.1, S2.out.xs.1, S2.out.N.cell 0⟩ (fun hHeld => ?_))
      generalize w2.drew = w3 at *
      refine wpAnyS_pure 0 (v := ?_) (fun _ => trivial) (by simp only [List.getElem?_toArray, List.getElem?_cons_succ, List.getElem?_cons_zero]; rfl) (by kernel_rfl) (fun _ _ _ _ _ h => h) ⟨rfl, (by intro c h; cases h), ?_⟩ hHeld ?_
      rotate_left
      focus (intro wS hSw; (try replace hSw := HSF.out wS hSw); (try dsimp only at hSw); go_simp; (try with_reducible rfl))
      (try simp only [Act.put, List.setIfInBounds_toArray, List.set_cons_zero, List.set_cons_succ])
      refine wpAnyS_take 1 (v := ?_) (fun _ => trivial) (by simp only [List.getElem?_toArray, List.getElem?_cons_succ, List.getElem?_cons_zero]; rfl) (by kernel_rfl) (fun _ _ _ _ _ h => h) ⟨rfl, (by intro c h; cases h), ?_⟩ hHeld ?_
      rotate_left
      focus (intro wS hSw; (try replace hSw := HSF.out wS hSw); (try dsimp only at hSw); go_simp; (try with_reducible rfl))
      (try simp only [Act.put, List.setIfInBounds_toArray, List.set_cons_zero, List.set_cons_succ])
      refine wpAnyS_pure 2 (v := ?_) (fun _ => trivial) (by simp only [List.getElem?_toArray, List.getElem?_cons_succ, List.getElem?_cons_zero]; rfl) (by kernel_rfl) (fun _ _ _ _ _ h => h) ⟨rfl, (by intro c h; cases h), ?_⟩ hHeld ?_
      rotate_left
      focus (intro wS hSw; (try replace hSw := HSF.out wS hSw); (try dsimp only at hSw); go_simp; (try with_reducible rfl))
      (try simp only [Act.put, List.setIfInBounds_toArray, List.set_cons_zero, List.set_cons_succ])
      refine wpAnyS_pure 3 (v := ?_) (fun _ => trivial) (by simp only [List.getElem?_toArray, List.getElem?_cons_succ, List.getElem?_cons_zero]; rfl) (by kernel_rfl) (fun _ _ _ _ _ h => h) ⟨rfl, (by intro c h; cases h), ?_⟩ hHeld ?_
      rotate_left
      focus (intro wS hSw; (try replace hSw := HSF.out wS hSw); (try dsimp only at hSw); go_simp; (try with_reducible rfl))
      (try simp only [Act.put, List.setIfInBounds_toArray, List.set_cons_zero, List.set_cons_succ])
      refine wpAnyS_pure 4 (v := ?_) (fun _ => trivial) (by simp only [List.getElem?_toArray, List.getElem?_cons_succ, List.getElem?_cons_zero]; rfl) (by kernel_rfl) (fun _ _ _ _ _ h => h) ⟨rfl, (by intro c h; cases h), ?_⟩ hHeld ?_
      rotate_left
      focus (intro wS hSw; (try replace hSw := HSF.out wS hSw); (try dsimp only at hSw); go_simp; (try with_reducible rfl))
      (try simp only [Act.put, List.setIfInBounds_toArray, List.set_cons_zero, List.set_cons_succ])
      refine wpAnyS_take 5 (v := ?_) (fun _ => trivial) (by simp only [List.getElem?_toArray, List.getElem?_cons_succ, List.getElem?_cons_zero]; rfl) (by kernel_rfl) (fun _ _ _ _ _ h => h) ⟨rfl, (by intro c h; cases h), ?_⟩ hHeld ?_
      rotate_left
      focus (intro wS hSw; (try replace hSw := HSF.out wS hSw); (try dsimp only at hSw); go_simp; (try with_reducible rfl))
      (try simp only [Act.put, List.setIfInBounds_toArray, List.set_cons_zero, List.set_cons_succ])
      refine wpAnyS_pure 6 (v := ?_) (fun _ => trivial) (by simp only [List.getElem?_toArray, List.getElem?_cons_succ, List.getElem?_cons_zero]; rfl) (by kernel_rfl) (fun _ _ _ _ _ h => h) ⟨rfl, (by intro c h; cases h), ?_⟩ hHeld ?_
      rotate_left
      focus (intro wS hSw; (try replace hSw := HSF.out wS hSw); (try dsimp only at hSw); go_simp; (try with_reducible rfl))
      (try simp only [Act.put, List.setIfInBounds_toArray, List.set_cons_zero, List.set_cons_succ])
      refine wpAnyS_pure 7 (v := ?_) (fun _ => trivial) (by simp only [List.getElem?_toArray, List.getElem?_cons_succ, List.getElem?_cons_zero]; rfl) (by kernel_rfl) (fun _ _ _ _ _ h => h) ⟨rfl, (by intro c h; cases h), ?_⟩ hHeld ?_
      rotate_left
      focus (intro wS hSw; (try replace hSw := HSF.out wS hSw); (try dsimp only at hSw); go_simp; (try with_reducible rfl))
      (try simp only [Act.put, List.setIfInBounds_toArray, List.set_cons_zero, List.set_cons_succ])
      refine wpAnyS_take 8 (v := ?_) (fun _ => trivial) (by simp only [List.getElem?_toArray, List.getElem?_cons_succ, List.getElem?_cons_zero]; rfl) (by kernel_rfl) (fun _ _ _ _ _ h => h) ⟨rfl, (by intro c h; cases h), ?_⟩ hHeld ?_
      rotate_left
      focus (intro wS hSw; (try replace hSw := HSF.out wS hSw); (try dsimp only at hSw); go_simp; (try with_reducible rfl))
      (try simp only [Act.put, List.setIfInBounds_toArray, List.set_cons_zero, List.set_cons_succ])
      refine wpAnyS_pure 9 (v := ?_) (fun _ => trivial) (by simp only [List.getElem?_toArray, List.getElem?_cons_succ, List.getElem?_cons_zero]; rfl) (by kernel_rfl) (fun _ _ _ _ _ h => h) ⟨rfl, (by intro c h; cases h), ?_⟩ hHeld ?_
      rotate_left
      focus (intro wS hSw; (try replace hSw := HSF.out wS hSw); (try dsimp only at hSw); go_simp; (try with_reducible rfl))
      (try simp only [Act.put, List.setIfInBounds_toArray, List.set_cons_zero, List.set_cons_succ])
      refine wpAnyS_pure 10 (v := ?_) (fun _ => trivial) (by simp only [List.getElem?_toArray, List.getElem?_cons_succ, List.getElem?_cons_zero]; rfl) (by kernel_rfl) (fun _ _ _ _ _ h => h) ⟨rfl, (by intro c h; cases h), ?_⟩ hHeld ?_
      rotate_left
      focus (intro wS hSw; (try replace hSw := HSF.out wS hSw); (try dsimp only at hSw); go_simp; (try with_reducible rfl))
      (try simp only [Act.put, List.setIfInBounds_toArray, List.set_cons_zero, List.set_cons_succ])
      refine wpAnyS_done (by kernel_rfl) ?_
      clear hHeld HSF
      go_wp2_with fail
      go_ret
      exact ⟨rfl, S2.out.R, gr_below S2.out.B _⟩
  · by_cases hm : (zoneOf d k).1 = d.me
    · as_aux_lemma =>
      have hl : lAs d (k : Int) false = 7 := by
        unfold lAs
        rw [if_neg (by omega)]
        have hm' : d.home.getD (k : Int).toNat 0 = d.me := hm
        simp only [decide_eq_true hm', ne_eq] <;> rfl
      have hp : d.gp k = false := by
        cases hq : d.gp k with
        | false => rfl
        | true => have h9 := (home_gp hk).2 hq; rw [(home_hp hk).1 hm] at h9; cases h9
      have hzz := zoneOf_h ok hp
      have hhb := ok.hb k
      have e : hearF d (1, (k : Int), u, m) = (7, d) := by
        unfold hearF
        simp only
        rw [if_neg (by omega)]
        have hd : decide ((1 : Int) ≠ 1) = false := by decide
        rw [hd, hl]
        rfl
      rw [e]
      clear hl e ok hp hhb
      go_enter Tryd.func26, Tryd.ntmps26
      go_upto_region 1 with fail
      have NZ := hid (Blk.new w 26 #[.int .i64 1, .int .i64 (k : Int), .int .i64 u, .int .i64 m])
      have B1 := hid (show Below w.heap.size w (w.alloc (Obj.cells #[.int .i64 1, .int .i64 (k : Int), .int .i64 u, .int .i64 m] 26)) by (repeat (first | exact Below.refl _ _ | assumption | refine below_drewN ?_ _ | refine Below.drew ?_ | refine Below.alloc ?_ (by (try simp); (try omega)) _ | refine Below.setCell ?_ (by (try simp); (try omega)) _)))
      generalize (w.alloc (Obj.cells #[.int .i64 1, .int .i64 (k : Int), .int .i64 u, .int .i64 m] 26)) = w1 at *
      obtain ⟨gn, hgn⟩ : ∃ gn, gn = w.heap.size := ⟨_, rfl⟩
      rw [← hgn] at NZ ⊢
      have HGN := hid (Nat.le_of_eq hgn.symm)
      clear hgn
      have R1 := hid (h.below B1.out)
      have a0 := NZ.out.cell 0; have a1 := NZ.out.cell 1; have a2 := NZ.out.cell 2; have a3 := NZ.out.cell 3
      simp at a0 a1 a2 a3
      have TH := hid (there_yes R1.out hz.1 hz.2)
      obtain ⟨d0, d1⟩ := R1.out.at_
      obtain ⟨g, rfl, g1, g2, g3, -, z0, z1, z2, z3, z4, z5, z6, fzz⟩ := R1.out.zone hk
      obtain ⟨zz, hzz⟩ : ∃ zz, zz = zoneOf d k := ⟨_, rfl⟩
      rw [← hzz] at z0 z1 z2 z3 z4 z5 z6
      have HZZ := hid hzz
      clear hzz
      obtain ⟨x0, x1, x2, x3, x4, x5, x6⟩ := zz
      simp only at z0 z1 z2 z3 z4 z5 z6
      have hq := HZZ.out
      rw [hzz] at hq
      simp only [Prod.mk.injEq] at hq
      obtain ⟨r0, rfl, rfl, rfl, rfl, rfl, rfl⟩ := hq
      have r0' : x0 = d.me := r0.trans hm
      clear r0 hzz hm hz h HZZ
      generalize (d.hs k).2.1 = no at *
      generalize (d.hs k).1 = en at *
      generalize (d.hs k).2.2 = x3 at *
      subst r0'
      go_wp2_with fail
      refine TH.out.mono ?_
      rintro e wa ⟨rfl, rfl⟩
      clear TH
      have G3 := hid g3
      have GLT := hid g1
      clear g1 g2 g3
      go_upto_region 3 with fail
      clear a0 a1 a2 a3 d0 d1
      have BD := hid ((Below.refl w1.heap.size w1).drew)
      have HSF := hid (fun (wq : World) (hq : Below w1.heap.size w1 wq) => show wq.cell? ⟨b, 1, none⟩ = some (.slice (some ⟨g, 0, none⟩) d.home.length cc) ∧ wq.cell? ⟨gn, 1, none⟩ = some (.int .i64 (k : Int)) ∧ wq.cell? ⟨g, k * 7, none⟩ = some (.int .i64 d.me) ∧ wq.cell? ⟨g, k * 7 + 1, none⟩ = some (.int .i64 en) ∧ wq.cell? ⟨g, k * 7 + 2, none⟩ = some (.int .i64 no) ∧ wq.cell? ⟨g, k * 7 + 3, none⟩ = some (.bool x3) ∧ wq.cell? ⟨g, k * 7 + 4, none⟩ = some (.int .i64 0) ∧ wq.cell? ⟨g, k * 7 + 5, none⟩ = some (.int .i64 0) ∧ wq.cell? ⟨g, k * 7 + 6, none⟩ = some (.int .i64 0) from
        ⟨(R1.out.below hq).at_.2, (NZ.out.below hq NZ.out.lt).cell 1, (bcell hq g _ GLT.out).trans z0, (bcell hq g _ GLT.out).trans z1, (bcell hq g _ GLT.out).trans z2, (bcell hq g _ GLT.out).trans z3, (bcell hq g _ GLT.out).trans z4, (bcell hq g _ GLT.out).trans z5, (bcell hq g _ GLT.out).trans z6⟩)
      clear z0 z1 z2 z3 z4 z5 z6 fzz
      refine wpIn_wide.1 (wpIn_region_S (n := 0) (fun wq => Below w1.heap.size w1 wq) [9] (by kernel_rfl) BD.out (fun hHeld => ?_))
      generalize w1.drew = wd at *
      refine wpAnyS_pure 0 (v := ?_) (fun _ => trivial) (by simp only [List.getElem?_toArray, List.getElem?_cons_succ, List.getElem?_cons_zero]; rfl) (by kernel_rfl) (fun _ _ _ _ _ h => h) ⟨rfl, (by intro c h; cases h), ?_⟩ hHeld ?_
      rotate_left
      focus (intro wS hSw; (try replace hSw := HSF.out wS hSw); (try dsimp only at hSw); go_simp; (try with_reducible rfl))
      (try simp only [Act.put, List.setIfInBounds_toArray, List.set_cons_zero, List.set_cons_succ])
      refine wpAnyS_pure 1 (v := ?_) (fun _ => trivial) (by simp only [List.getElem?_toArray, List.getElem?_cons_succ, List.getElem?_cons_zero]; rfl) (by kernel_rfl) (fun _ _ _ _ _ h => h) ⟨rfl, (by intro c h; cases h), ?_⟩ hHeld ?_
      rotate_left
      focus (intro wS hSw; (try replace hSw := HSF.out wS hSw); (try dsimp only at hSw); go_simp; (try with_reducible rfl))
      (try simp only [Act.put, List.setIfInBounds_toArray, List.set_cons_zero, List.set_cons_succ])
      refine wpAnyS_pure 2 (v := ?_) (fun _ => trivial) (by simp only [List.getElem?_toArray, List.getElem?_cons_succ, List.getElem?_cons_zero]; rfl) (by kernel_rfl) (fun _ _ _ _ _ h => h) ⟨rfl, (by intro c h; cases h), ?_⟩ hHeld ?_
      rotate_left
      focus (intro wS hSw; (try replace hSw := HSF.out wS hSw); (try dsimp only at hSw); go_simp; (try with_reducible rfl))
      (try simp only [Act.put, List.setIfInBounds_toArray, List.set_cons_zero, List.set_cons_succ])
      refine wpAnyS_take 3 (v := ?_) (fun _ => trivial) (by simp only [List.getElem?_toArray, List.getElem?_cons_succ, List.getElem?_cons_zero]; rfl) (by kernel_rfl) (fun _ _ _ _ _ h => h) ⟨rfl, (by intro c h; cases h), ?_⟩ hHeld ?_
      rotate_left
      focus (intro wS hSw; (try replace hSw := HSF.out wS hSw); (try dsimp only at hSw); go_simp; (try with_reducible rfl))
      (try simp only [Act.put, List.setIfInBounds_toArray, List.set_cons_zero, List.set_cons_succ])
      refine wpAnyS_pure 4 (v := ?_) (fun _ => trivial) (by simp only [List.getElem?_toArray, List.getElem?_cons_succ, List.getElem?_cons_zero]; rfl) (by kernel_rfl) (fun _ _ _ _ _ h => h) ⟨rfl, (by intro c h; cases h), ?_⟩ hHeld ?_
      rotate_left
      focus (intro wS hSw; (try replace hSw := HSF.out wS hSw); (try dsimp only at hSw); go_simp; (try with_reducible rfl))
      (try simp only [Act.put, List.setIfInBounds_toArray, List.set_cons_zero, List.set_cons_succ])
      refine wpAnyS_take 5 (v := ?_) (fun _ => trivial) (by simp only [List.getElem?_toArray, List.getElem?_cons_succ, List.getElem?_cons_zero]; rfl) (by kernel_rfl) (fun _ _ _ _ _ h => h) ⟨rfl, (by intro c h; cases h), ?_⟩ hHeld ?_
      rotate_left
      focus (intro wS hSw; (try replace hSw := HSF.out wS hSw); (try dsimp only at hSw); go_simp; (try with_reducible rfl))
      (try simp only [Act.put, List.setIfInBounds_toArray, List.set_cons_zero, List.set_cons_succ])
      refine wpAnyS_pure 6 (v := ?_) (fun _ => trivial) (by simp only [List.getElem?_toArray, List.getElem?_cons_succ, List.getElem?_cons_zero]; rfl) (by kernel_rfl) (fun _ _ _ _ _ h => h) ⟨rfl, (by intro c h; cases h), ?_⟩ hHeld ?_
      rotate_left
      focus (intro wS hSw; (try replace hSw := HSF.out wS hSw); (try dsimp only at hSw); go_simp; (try with_reducible rfl))
      (try simp only [Act.put, List.setIfInBounds_toArray, List.set_cons_zero, List.set_cons_succ])
      refine wpAnyS_take 7 (v := ?_) (fun _ => trivial) (by simp only [List.getElem?_toArray, List.getElem?_cons_succ, List.getElem?_cons_zero]; rfl) (by kernel_rfl) (fun _ _ _ _ _ h => h) ⟨rfl, (by intro c h; cases h), ?_⟩ hHeld ?_
      rotate_left
      focus (intro wS hSw; (try replace hSw := HSF.out wS hSw); (try dsimp only at hSw); go_simp; (try with_reducible rfl))
      (try simp only [Act.put, List.setIfInBounds_toArray, List.set_cons_zero, List.set_cons_succ])
      refine wpAnyS_ready [8] (by kernel_rfl) (by simp) (AllReadyS.cons (by simp only [List.getElem?_toArray, List.getElem?_cons_succ, List.getElem?_cons_zero]; rfl) rfl (fun K hK => ?_) AllReadyS.nil)
      refine allocZS (fun _ => trivial) rfl ?_
      refine hK.out _ _ (BD.out.alloc BD.out.size _) ?_
      clear hK K hHeld
      (try simp only [Act.put, List.setIfInBounds_toArray, List.set_cons_zero, List.set_cons_succ])
      refine wpAnyS_ready [9] (by kernel_rfl) (by simp) (AllReadyS.consL (by simp only [List.getElem?_toArray, List.getElem?_cons_succ, List.getElem?_cons_zero]; rfl) rfl (by kernel_rfl) (fun K hK => ?_) AllReadyS.nil)
      refine storeNZ (fun _ => trivial) (.tmp 5) (.tmp 28) rfl (z := (d.me, en, no, x3, 0, 0, 0)) rfl rfl ?_
      refine hK.out _ _ ?_
      clear hK K HSF
      (try simp only [Act.put, List.setIfInBounds_toArray, List.set_cons_zero, List.set_cons_succ])
      have ba := hid (BD.out.alloc BD.out.size (Obj.cells (znRK.cs (d.me, en, no, x3, 0, 0, 0)).toArray 90))
      have S1 := hid (show GH w (wd.alloc (Obj.cells (znRK.cs (d.me, en, no, x3, 0, 0, 0)).toArray 90)) base b g d.home.length cc gn wd.heap.size d #[.int .i64 1, .int .i64 (k : Int), .int .i64 u, .int .i64 m] (d.me, en, no, x3, 0, 0, 0) from
        ⟨R1.out.below ba.out, NZ.out.below ba.out NZ.out.lt, Blk.new wd _ _, B1.out.trans (ba.out.mono B1.out.size), by have := GLT.out; have := BD.out.size; omega, HGN.out, Nat.le_trans B1.out.size BD.out.size⟩)
      clear NZ R1 B1 ba GLT BD
      generalize (wd.alloc (Obj.cells (znRK.cs (d.me, en, no, x3, 0, 0, 0)).toArray 90)) = w2 at *
      generalize wd.heap.size = q at *
      refine wpAnyS_done (by kernel_rfl) ?_
      go_upto_region 4 with fail
      have S2 := hid (S1.out.below (show Below w2.heap.size w2 w2.drew by (repeat (first | exact Below.refl _ _ | assumption | refine below_drewN ?_ _ | refine Below.drew ?_ | refine Below.alloc ?_ (by (try simp); (try omega)) _ | refine Below.setCell ?_ (by (try simp); (try omega)) _))))
      clear S1
      have HSF := hid (fun (wq : World) (hq : wq.cell? ⟨b, 0, none⟩ = some (.int .i64 d.me) ∧ wq.cell? ⟨q, 0, none⟩ = some (.int .i64 d.me) ∧ wq.cell? ⟨gn, 0, none⟩ = some (.int .i64 1)) => hq)
      refine wpIn_wide.1 (wpIn_region_S (n := 0) (fun wq => wq.cell? ⟨b, 0, none⟩ = some (.int .i64 d.me) ∧ wq.cell? ⟨q, 0, none⟩ = some (.int .i64 d.me) ∧ wq.cell? ⟨gn, 0, none⟩ = some (.int .i64 1)) [] (by kernel_rfl) ⟨S2.out.R.at_.1, S2.out.xs.1, S2.out.N.cell 0⟩ (fun hHeld => ?_))
      generalize w2.drew = w3 at *
      refine wpAnyS_pure 0 (v := ?_) (fun _ => trivial) (by simp only [List.getElem?_toArray, List.getElem?_cons_succ, List.getElem?_cons_zero]; rfl) (by kernel_rfl) (fun _ _ _ _ _ h => h) ⟨rfl, (by intro c h; cases h), ?_⟩ hHeld ?_
      rotate_left
      focus (intro wS hSw; (try replace hSw := HSF.out wS hSw); (try dsimp only at hSw); go_simp; (try with_reducible rfl))
      (try simp only [Act.put, List.setIfInBounds_toArray, List.set_cons_zero, List.set_cons_succ])
      refine wpAnyS_take 1 (v := ?_) (fun _ => trivial) (by simp only [List.getElem?_toArray, List.getElem?_cons_succ, List.getElem?_cons_zero]; rfl) (by kernel_rfl) (fun _ _ _ _ _ h => h) ⟨rfl, (by intro c h; cases h), ?_⟩ hHeld ?_
      rotate_left
      focus (intro wS hSw; (try replace hSw := HSF.out wS hSw); (try dsimp only at hSw); go_simp; (try with_reducible rfl))
      (try simp only [Act.put, List.setIfInBounds_toArray, List.set_cons_zero, List.set_cons_succ])
      refine wpAnyS_pure 2 (v := ?_) (fun _ => trivial) (by simp only [List.getElem?_toArray, List.getElem?_cons_succ, List.getElem?_cons_zero]; rfl) (by kernel_rfl) (fun _ _ _ _ _ h => h) ⟨rfl, (by intro c h; cases h), ?_⟩ hHeld ?_
      rotate_left
      focus (intro wS hSw; (try replace hSw := HSF.out wS hSw); (try dsimp only at hSw); go_simp; (try with_reducible rfl))
      (try simp only [Act.put, List.setIfInBounds_toArray, List.set_cons_zero, List.set_cons_succ])
      refine wpAnyS_pure 3 (v := ?_) (fun _ => trivial) (by simp only [List.getElem?_toArray, List.getElem?_cons_succ, List.getElem?_cons_zero]; rfl) (by kernel_rfl) (fun _ _ _ _ _ h => h) ⟨rfl, (by intro c h; cases h), ?_⟩ hHeld ?_
      rotate_left
      focus (intro wS hSw; (try replace hSw := HSF.out wS hSw); (try dsimp only at hSw); go_simp; (try with_reducible rfl))
      (try simp only [Act.put, List.setIfInBounds_toArray, List.set_cons_zero, List.set_cons_succ])
      refine wpAnyS_pure 4 (v := ?_) (fun _ => trivial) (by simp only [List.getElem?_toArray, List.getElem?_cons_succ, List.getElem?_cons_zero]; rfl) (by kernel_rfl) (fun _ _ _ _ _ h => h) ⟨rfl, (by intro c h; cases h), ?_⟩ hHeld ?_
      rotate_left
      focus (intro wS hSw; (try replace hSw := HSF.out wS hSw); (try dsimp only at hSw); go_simp; (try with_reducible rfl))
      (try simp only [Act.put, List.setIfInBounds_toArray, List.set_cons_zero, List.set_cons_succ])
      refine wpAnyS_take 5 (v := ?_) (fun _ => trivial) (by simp only [List.getElem?_toArray, List.getElem?_cons_succ, List.getElem?_cons_zero]; rfl) (by kernel_rfl) (fun _ _ _ _ _ h => h) ⟨rfl, (by intro c h; cases h), ?_⟩ hHeld ?_
      rotate_left
      focus (intro wS hSw; (try replace hSw := HSF.out wS hSw); (try dsimp only at hSw); go_simp; (try with_reducible rfl))
      (try simp only [Act.put, List.setIfInBounds_toArray, List.set_cons_zero, List.set_cons_succ])
      refine wpAnyS_pure 6 (v := ?_) (fun _ => trivial) (by simp only [List.getElem?_toArray, List.getElem?_cons_succ, List.getElem?_cons_zero]; rfl) (by kernel_rfl) (fun _ _ _ _ _ h => h) ⟨rfl, (by intro c h; cases h), ?_⟩ hHeld ?_
      rotate_left
      focus (intro wS hSw; (try replace hSw := HSF.out wS hSw); (try dsimp only at hSw); go_simp; (try with_reducible rfl))
      (try simp only [Act.put, List.setIfInBounds_toArray, List.set_cons_zero, List.set_cons_succ])
      refine wpAnyS_pure 7 (v := ?_) (fun _ => trivial) (by simp only [List.getElem?_toArray, List.getElem?_cons_succ, List.getElem?_cons_zero]; rfl) (by kernel_rfl) (fun _ _ _ _ _ h => h) ⟨rfl, (by intro c h; cases h), ?_⟩ hHeld ?_
      rotate_left
      focus (intro wS hSw; (try replace hSw := HSF.out wS hSw); (try dsimp only at hSw); go_simp; (try with_reducible rfl))
      (try simp only [Act.put, List.setIfInBounds_toArray, List.set_cons_zero, List.set_cons_succ])
      refine wpAnyS_take 8 (v := ?_) (fun _ => trivial) (by simp only [List.getElem?_toArray, List.getElem?_cons_succ, List.getElem?_cons_zero]; rfl) (by kernel_rfl) (fun _ _ _ _ _ h => h) ⟨rfl, (by intro c h; cases h), ?_⟩ hHeld ?_
      rotate_left
      focus (intro wS hSw; (try replace hSw := HSF.out wS hSw); (try dsimp only at hSw); go_simp; (try with_reducible rfl))
      (try simp only [Act.put, List.setIfInBounds_toArray, List.set_cons_zero, List.set_cons_succ])
      refine wpAnyS_pure 9 (v := ?_) (fun _ => trivial) (by simp only [List.getElem?_toArray, List.getElem?_cons_succ, List.getElem?_cons_zero]; rfl) (by kernel_rfl) (fun _ _ _ _ _ h => h) ⟨rfl, (by intro c h; cases h), ?_⟩ hHeld ?_
      rotate_left
      focus (intro wS hSw; (try replace hSw := HSF.out wS hSw); (try dsimp only at hSw); go_simp; (try with_reducible rfl))
      (try simp only [Act.put, List.setIfInBounds_toArray, List.set_cons_zero, List.set_cons_succ])
      refine wpAnyS_pure 10 (v := ?_) (fun _ => trivial) (by simp only [List.getElem?_toArray, List.getElem?_cons_succ, List.getElem?_cons_zero]; rfl) (by kernel_rfl) (fun _ _ _ _ _ h => h) ⟨rfl, (by intro c h; cases h), ?_⟩ hHeld ?_
      rotate_left
      focus (intro wS hSw; (try replace hSw := HSF.out wS hSw); (try dsimp only at hSw); go_simp; (try with_reducible rfl))
      (try simp only [Act.put, List.setIfInBounds_toArray, List.set_cons_zero, List.set_cons_succ])
      refine wpAnyS_done (by kernel_rfl) ?_
      clear hHeld HSF
      go_wp2_with fail
      go_ret
      exact ⟨rfl, S2.out.R, gr_below S2.out.B _⟩
    · have hl : lAs d (k : Int) false = 0 := by
        unfold lAs
        rw [if_neg (by omega)]
        have hm' : ¬ d.home.getD (k : Int).toNat 0 = d.me := hm
        simp only [decide_eq_false hm', ne_eq] <;> rfl
      have hp : d.hp k = false := by
        cases hq : d.hp k with
        | false => rfl
        | true => exact absurd ((home_hp hk).2 hq) hm
      have hzz := zoneOf_g ok hp
      by_cases hs : (d.gs k).2.2.1 < m
      · as_aux_lemma =>
        have e : hearF d (1, (k : Int), u, m) = (0, d.setG k (hearG (d.gs k) (1, u, m))) := by
          unfold hearF
          simp only
          rw [if_neg (by omega)]
          have hd : decide ((1 : Int) ≠ 1) = false := by decide
          rw [hd, hl]
          rw [if_pos rfl, if_pos trivial, if_pos hs]
        have hgx : hearG (d.gs k) (1, u, m) = (max (d.gs k).1 u, max (d.gs k).2.1 m, (d.gs k).2.2.1, (d.gs k).2.2.2) := by unfold hearG; rw [if_pos hs]
        have HZ := hid (show zonesL (d.setG k (hearG (d.gs k) (1, u, m))) = (zonesL d).set k ((zoneOf d k).1, max (d.gs k).1 u, 0, false, max (d.gs k).2.1 m, (d.gs k).2.2.1, (d.gs k).2.2.2) by
          rw [zonesL_set (d := d) (d' := d.setG k (hearG (d.gs k) (1, u, m))) rfl hk (fun j hj => zoneOf_setG j hj), zoneG ok hp, hgx]; rfl)
        have HME := hid (show (d.setG k (hearG (d.gs k) (1, u, m))).me = d.me from rfl)
        rw [e]
        clear hl e ok hp hgx
        generalize d.setG k (hearG (d.gs k) (1, u, m)) = d' at *
        go_enter Tryd.func26, Tryd.ntmps26
        go_upto_region 1 with fail
        have NZ := hid (Blk.new w 26 #[.int .i64 1, .int .i64 (k : Int), .int .i64 u, .int .i64 m])
        have B1 := hid (show Below w.heap.size w (w.alloc (Obj.cells #[.int .i64 1, .int .i64 (k : Int), .int .i64 u, .int .i64 m] 26)) by (repeat (first | exact Below.refl _ _ | assumption | refine below_drewN ?_ _ | refine Below.drew ?_ | refine Below.alloc ?_ (by (try simp); (try omega)) _ | refine Below.setCell ?_ (by (try simp); (try omega)) _)))
        generalize (w.alloc (Obj.cells #[.int .i64 1, .int .i64 (k : Int), .int .i64 u, .int .i64 m] 26)) = w1 at *
        obtain ⟨gn, hgn⟩ : ∃ gn, gn = w.heap.size := ⟨_, rfl⟩
        rw [← hgn] at NZ ⊢
        have HGN := hid (Nat.le_of_eq hgn.symm)
        clear hgn
        have R1 := hid (h.below B1.out)
        have a0 := NZ.out.cell 0; have a1 := NZ.out.cell 1; have a2 := NZ.out.cell 2; have a3 := NZ.out.cell 3
        simp at a0 a1 a2 a3
        have TH := hid (there_yes R1.out hz.1 hz.2)
        obtain ⟨d0, d1⟩ := R1.out.at_
        obtain ⟨g, rfl, g1, g2, g3, -, z0, z1, z2, z3, z4, z5, z6, fzz⟩ := R1.out.zone hk
        obtain ⟨zz, hzz⟩ : ∃ zz, zz = zoneOf d k := ⟨_, rfl⟩
        rw [← hzz] at z0 z1 z2 z3 z4 z5 z6
        have HZZ := hid hzz
        clear hzz
        obtain ⟨x0, x1, x2, x3, x4, x5, x6⟩ := zz
        simp only at z0 z1 z2 z3 z4 z5 z6
        rw [← HZZ.out] at HZ
        simp only at HZ
        have hq := HZZ.out
        rw [hzz] at hq
        simp only [Prod.mk.injEq] at hq
        obtain ⟨r0, rfl, rfl, rfl, rfl, rfl, rfl⟩ := hq
        have hx0 : x0 ≠ d.me := by rw [r0]; exact hm
        have hxb : (x0 == d.me) = false := by simpa using hx0
        have hr0 := hid r0
        clear r0 hzz hm hz h HZZ
        generalize (d.gs k).1 = en at *
        generalize (d.gs k).2.1 = he at *
        generalize (d.gs k).2.2.1 = gno at *
        generalize (d.gs k).2.2.2 = asv at *
        obtain ⟨mx1, hmx1⟩ : ∃ mx1, mx1 = max en u := ⟨_, rfl⟩
        obtain ⟨mx2, hmx2⟩ : ∃ mx2, mx2 = max he m := ⟨_, rfl⟩
        rw [← hmx1, ← hmx2] at HZ
        have HM1 := hid hmx1
        have HM2 := hid hmx2
        clear hmx1 hmx2
        go_wp2_with fail
        refine TH.out.mono ?_
        rintro e wa ⟨rfl, rfl⟩
        clear TH
        have G3 := hid g3
        have GLT := hid g1
        clear g1 g2 g3
        go_upto_region 3 with fail
        clear a0 a1 a2 a3 d0 d1
        have BD := hid ((Below.refl w1.heap.size w1).drew)
        have HSF := hid (fun (wq : World) (hq : Below w1.heap.size w1 wq) => show wq.cell? ⟨b, 1, none⟩ = some (.slice (some ⟨g, 0, none⟩) d.home.length cc) ∧ wq.cell? ⟨gn, 1, none⟩ = some (.int .i64 (k : Int)) ∧ wq.cell? ⟨g, k * 7, none⟩ = some (.int .i64 x0) ∧ wq.cell? ⟨g, k * 7 + 1, none⟩ = some (.int .i64 en) ∧ wq.cell? ⟨g, k * 7 + 2, none⟩ = some (.int .i64 0) ∧ wq.cell? ⟨g, k * 7 + 3, none⟩ = some (.bool false) ∧ wq.cell? ⟨g, k * 7 + 4, none⟩ = some (.int .i64 he) ∧ wq.cell? ⟨g, k * 7 + 5, none⟩ = some (.int .i64 gno) ∧ wq.cell? ⟨g, k * 7 + 6, none⟩ = some (.int .i64 asv) from
          ⟨(R1.out.below hq).at_.2, (NZ.out.below hq NZ.out.lt).cell 1, (bcell hq g _ GLT.out).trans z0, (bcell hq g _ GLT.out).trans z1, (bcell hq g _ GLT.out).trans z2, (bcell hq g _ GLT.out).trans z3, (bcell hq g _ GLT.out).trans z4, (bcell hq g _ GLT.out).trans z5, (bcell hq g _ GLT.out).trans z6⟩)
        clear z0 z1 z2 z3 z4 z5 z6 fzz
        refine wpIn_wide.1 (wpIn_region_S (n := 0) (fun wq => Below w1.heap.size w1 wq) [9] (by kernel_rfl) BD.out (fun hHeld => ?_))
        generalize w1.drew = wd at *
        refine wpAnyS_pure 0 (v := ?_) (fun _ => trivial) (by simp only [List.getElem?_toArray, List.getElem?_cons_succ, List.getElem?_cons_zero]; rfl) (by kernel_rfl) (fun _ _ _ _ _ h => h) ⟨rfl, (by intro c h; cases h), ?_⟩ hHeld ?_
        rotate_left
        focus (intro wS hSw; (try replace hSw := HSF.out wS hSw); (try dsimp only at hSw); go_simp; (try with_reducible rfl))
        (try simp only [Act.put, List.setIfInBounds_toArray, List.set_cons_zero, List.set_cons_succ])
        refine wpAnyS_pure 1 (v := ?_) (fun _ => trivial) (by simp only [List.getElem?_toArray, List.getElem?_cons_succ, List.getElem?_cons_zero]; rfl) (by kernel_rfl) (fun _ _ _ _ _ h => h) ⟨rfl, (by intro c h; cases h), ?_⟩ hHeld ?_
        rotate_left
        focus (intro wS hSw; (try replace hSw := HSF.out wS hSw); (try dsimp only at hSw); go_simp; (try with_reducible rfl))
        (try simp only [Act.put, List.setIfInBounds_toArray, List.set_cons_zero, List.set_cons_succ])
        refine wpAnyS_pure 2 (v := ?_) (fun _ => trivial) (by simp only [List.getElem?_toArray, List.getElem?_cons_succ, List.getElem?_cons_zero]; rfl) (by kernel_rfl) (fun _ _ _ _ _ h => h) ⟨rfl, (by intro c h; cases h), ?_⟩ hHeld ?_
        rotate_left
        focus (intro wS hSw; (try replace hSw := HSF.out wS hSw); (try dsimp only at hSw); go_simp; (try with_reducible rfl))
        (try simp only [Act.put, List.setIfInBounds_toArray, List.set_cons_zero, List.set_cons_succ])
        refine wpAnyS_take 3 (v := ?_) (fun _ => trivial) (by simp only [List.getElem?_toArray, List.getElem?_cons_succ, List.getElem?_cons_zero]; rfl) (by kernel_rfl) (fun _ _ _ _ _ h => h) ⟨rfl, (by intro c h; cases h), ?_⟩ hHeld ?_
        rotate_left
        focus (intro wS hSw; (try replace hSw := HSF.out wS hSw); (try dsimp only at hSw); go_simp; (try with_reducible rfl))
        (try simp only [Act.put, List.setIfInBounds_toArray, List.set_cons_zero, List.set_cons_succ])
        refine wpAnyS_pure 4 (v := ?_) (fun _ => trivial) (by simp only [List.getElem?_toArray, List.getElem?_cons_succ, List.getElem?_cons_zero]; rfl) (by kernel_rfl) (fun _ _ _ _ _ h => h) ⟨rfl, (by intro c h; cases h), ?_⟩ hHeld ?_
        rotate_left
        focus (intro wS hSw; (try replace hSw := HSF.out wS hSw); (try dsimp only at hSw); go_simp; (try with_reducible rfl))
        (try simp only [Act.put, List.setIfInBounds_toArray, List.set_cons_zero, List.set_cons_succ])
        refine wpAnyS_take 5 (v := ?_) (fun _ => trivial) (by simp only [List.getElem?_toArray, List.getElem?_cons_succ, List.getElem?_cons_zero]; rfl) (by kernel_rfl) (fun _ _ _ _ _ h => h) ⟨rfl, (by intro c h; cases h), ?_⟩ hHeld ?_
        rotate_left
        focus (intro wS hSw; (try replace hSw := HSF.out wS hSw); (try dsimp only at hSw); go_simp; (try with_reducible rfl))
        (try simp only [Act.put, List.setIfInBounds_toArray, List.set_cons_zero, List.set_cons_succ])
        refine wpAnyS_pure 6 (v := ?_) (fun _ => trivial) (by simp only [List.getElem?_toArray, List.getElem?_cons_succ, List.getElem?_cons_zero]; rfl) (by kernel_rfl) (fun _ _ _ _ _ h => h) ⟨rfl, (by intro c h; cases h), ?_⟩ hHeld ?_
        rotate_left
        focus (intro wS hSw; (try replace hSw := HSF.out wS hSw); (try dsimp only at hSw); go_simp; (try with_reducible rfl))
        (try simp only [Act.put, List.setIfInBounds_toArray, List.set_cons_zero, List.set_cons_succ])
        refine wpAnyS_take 7 (v := ?_) (fun _ => trivial) (by simp only [List.getElem?_toArray, List.getElem?_cons_succ, List.getElem?_cons_zero]; rfl) (by kernel_rfl) (fun _ _ _ _ _ h => h) ⟨rfl, (by intro c h; cases h), ?_⟩ hHeld ?_
        rotate_left
        focus (intro wS hSw; (try replace hSw := HSF.out wS hSw); (try dsimp only at hSw); go_simp; (try with_reducible rfl))
        (try simp only [Act.put, List.setIfInBounds_toArray, List.set_cons_zero, List.set_cons_succ])
        refine wpAnyS_ready [8] (by kernel_rfl) (by simp) (AllReadyS.cons (by simp only [List.getElem?_toArray, List.getElem?_cons_succ, List.getElem?_cons_zero]; rfl) rfl (fun K hK => ?_) AllReadyS.nil)
        refine allocZS (fun _ => trivial) rfl ?_
        refine hK.out _ _ (BD.out.alloc BD.out.size _) ?_
        clear hK K hHeld
        (try simp only [Act.put, List.setIfInBounds_toArray, List.set_cons_zero, List.set_cons_succ])
        refine wpAnyS_ready [9] (by kernel_rfl) (by simp) (AllReadyS.consL (by simp only [List.getElem?_toArray, List.getElem?_cons_succ, List.getElem?_cons_zero]; rfl) rfl (by kernel_rfl) (fun K hK => ?_) AllReadyS.nil)
        refine storeNZ (fun _ => trivial) (.tmp 5) (.tmp 28) rfl (z := (x0, en, 0, false, he, gno, asv)) rfl rfl ?_
        refine hK.out _ _ ?_
        clear hK K HSF
        (try simp only [Act.put, List.setIfInBounds_toArray, List.set_cons_zero, List.set_cons_succ])
        have ba := hid (BD.out.alloc BD.out.size (Obj.cells (znRK.cs (x0, en, 0, false, he, gno, asv)).toArray 90))
        have S1 := hid (show GH w (wd.alloc (Obj.cells (znRK.cs (x0, en, 0, false, he, gno, asv)).toArray 90)) base b g d.home.length cc gn wd.heap.size d #[.int .i64 1, .int .i64 (k : Int), .int .i64 u, .int .i64 m] (x0, en, 0, false, he, gno, asv) from
          ⟨R1.out.below ba.out, NZ.out.below ba.out NZ.out.lt, Blk.new wd _ _, B1.out.trans (ba.out.mono B1.out.size), by have := GLT.out; have := BD.out.size; omega, HGN.out, Nat.le_trans B1.out.size BD.out.size⟩)
        clear NZ R1 B1 ba GLT BD
        generalize (wd.alloc (Obj.cells (znRK.cs (x0, en, 0, false, he, gno, asv)).toArray 90)) = w2 at *
        generalize wd.heap.size = q at *
        refine wpAnyS_done (by kernel_rfl) ?_
        go_upto_region 4 with fail
        have S2 := hid (S1.out.below (show Below w2.heap.size w2 w2.drew by (repeat (first | exact Below.refl _ _ | assumption | refine below_drewN ?_ _ | refine Below.drew ?_ | refine Below.alloc ?_ (by (try simp); (try omega)) _ | refine Below.setCell ?_ (by (try simp); (try omega)) _))))
        clear S1
        have HSF := hid (fun (wq : World) (hq : wq.cell? ⟨b, 0, none⟩ = some (.int .i64 d.me) ∧ wq.cell? ⟨q, 0, none⟩ = some (.int .i64 x0) ∧ wq.cell? ⟨gn, 0, none⟩ = some (.int .i64 1)) => hq)
        refine wpIn_wide.1 (wpIn_region_S (n := 0) (fun wq => wq.cell? ⟨b, 0, none⟩ = some (.int .i64 d.me) ∧ wq.cell? ⟨q, 0, none⟩ = some (.int .i64 x0) ∧ wq.cell? ⟨gn, 0, none⟩ = some (.int .i64 1)) [] (by kernel_rfl) ⟨S2.out.R.at_.1, S2.out.xs.1, S2.out.N.cell 0⟩ (fun hHeld => ?_))
        generalize w2.drew = w3 at *
        refine wpAnyS_pure 0 (v := ?_) (fun _ => trivial) (by simp only [List.getElem?_toArray, List.getElem?_cons_succ, List.getElem?_cons_zero]; rfl) (by kernel_rfl) (fun _ _ _ _ _ h => h) ⟨rfl, (by intro c h; cases h), ?_⟩ hHeld ?_
        rotate_left
        focus (intro wS hSw; (try replace hSw := HSF.out wS hSw); (try dsimp only at hSw); go_simp; (try with_reducible rfl))
        (try simp only [Act.put, List.setIfInBounds_toArray, List.set_cons_zero, List.set_cons_succ])
        refine wpAnyS_take 1 (v := ?_) (fun _ => trivial) (by simp only [List.getElem?_toArray, List.getElem?_cons_succ, List.getElem?_cons_zero]; rfl) (by kernel_rfl) (fun _ _ _ _ _ h => h) ⟨rfl, (by intro c h; cases h), ?_⟩ hHeld ?_
        rotate_left
        focus (intro wS hSw; (try replace hSw := HSF.out wS hSw); (try dsimp only at hSw); go_simp; (try with_reducible rfl))
        (try simp only [Act.put, List.setIfInBounds_toArray, List.set_cons_zero, List.set_cons_succ])
        refine wpAnyS_pure 2 (v := ?_) (fun _ => trivial) (by simp only [List.getElem?_toArray, List.getElem?_cons_succ, List.getElem?_cons_zero]; rfl) (by kernel_rfl) (fun _ _ _ _ _ h => h) ⟨rfl, (by intro c h; cases h), ?_⟩ hHeld ?_
        rotate_left
        focus (intro wS hSw; (try replace hSw := HSF.out wS hSw); (try dsimp only at hSw); go_simp; (try with_reducible rfl))
        (try simp only [Act.put, List.setIfInBounds_toArray, List.set_cons_zero, List.set_cons_succ])
        refine wpAnyS_pure 3 (v := ?_) (fun _ => trivial) (by simp only [List.getElem?_toArray, List.getElem?_cons_succ, List.getElem?_cons_zero]; rfl) (by kernel_rfl) (fun _ _ _ _ _ h => h) ⟨rfl, (by intro c h; cases h), ?_⟩ hHeld ?_
        rotate_left
        focus (intro wS hSw; (try replace hSw := HSF.out wS hSw); (try dsimp only at hSw); go_simp; (try with_reducible rfl))
        (try simp only [Act.put, List.setIfInBounds_toArray, List.set_cons_zero, List.set_cons_succ])
        refine wpAnyS_pure 4 (v := ?_) (fun _ => trivial) (by simp only [List.getElem?_toArray, List.getElem?_cons_succ, List.getElem?_cons_zero]; rfl) (by kernel_rfl) (fun _ _ _ _ _ h => h) ⟨rfl, (by intro c h; cases h), ?_⟩ hHeld ?_
        rotate_left
        focus (intro wS hSw; (try replace hSw := HSF.out wS hSw); (try dsimp only at hSw); go_simp; (try with_reducible rfl))
        (try simp only [Act.put, List.setIfInBounds_toArray, List.set_cons_zero, List.set_cons_succ])
        refine wpAnyS_take 5 (v := ?_) (fun _ => trivial) (by simp only [List.getElem?_toArray, List.getElem?_cons_succ, List.getElem?_cons_zero]; rfl) (by kernel_rfl) (fun _ _ _ _ _ h => h) ⟨rfl, (by intro c h; cases h), ?_⟩ hHeld ?_
        rotate_left
        focus (intro wS hSw; (try replace hSw := HSF.out wS hSw); (try dsimp only at hSw); go_simp; (try with_reducible rfl))
        (try simp only [Act.put, List.setIfInBounds_toArray, List.set_cons_zero, List.set_cons_succ])
        refine wpAnyS_pure 6 (v := ?_) (fun _ => trivial) (by simp only [List.getElem?_toArray, List.getElem?_cons_succ, List.getElem?_cons_zero]; rfl) (by kernel_rfl) (fun _ _ _ _ _ h => h) ⟨rfl, (by intro c h; cases h), ?_⟩ hHeld ?_
        rotate_left
        focus (intro wS hSw; (try replace hSw := HSF.out wS hSw); (try dsimp only at hSw); go_simp; (try with_reducible rfl))
        (try simp only [Act.put, List.setIfInBounds_toArray, List.set_cons_zero, List.set_cons_succ])
        refine wpAnyS_pure 7 (v := ?_) (fun _ => trivial) (by simp only [List.getElem?_toArray, List.getElem?_cons_succ, List.getElem?_cons_zero]; rfl) (by kernel_rfl) (fun _ _ _ _ _ h => h) ⟨rfl, (by intro c h; cases h), ?_⟩ hHeld ?_
        rotate_left
        focus (intro wS hSw; (try replace hSw := HSF.out wS hSw); (try dsimp only at hSw); go_simp; (try with_reducible rfl))
        (try simp only [Act.put, List.setIfInBounds_toArray, List.set_cons_zero, List.set_cons_succ])
        refine wpAnyS_take 8 (v := ?_) (fun _ => trivial) (by simp only [List.getElem?_toArray, List.getElem?_cons_succ, List.getElem?_cons_zero]; rfl) (by kernel_rfl) (fun _ _ _ _ _ h => h) ⟨rfl, (by intro c h; cases h), ?_⟩ hHeld ?_
        rotate_left
        focus (intro wS hSw; (try replace hSw := HSF.out wS hSw); (try dsimp only at hSw); go_simp; (try with_reducible rfl))
        (try simp only [Act.put, List.setIfInBounds_toArray, List.set_cons_zero, List.set_cons_succ])
        refine wpAnyS_pure 9 (v := ?_) (fun _ => trivial) (by simp only [List.getElem?_toArray, List.getElem?_cons_succ, List.getElem?_cons_zero]; rfl) (by kernel_rfl) (fun _ _ _ _ _ h => h) ⟨rfl, (by intro c h; cases h), ?_⟩ hHeld ?_
        rotate_left
        focus (intro wS hSw; (try replace hSw := HSF.out wS hSw); (try dsimp only at hSw); go_simp; (try with_reducible rfl))
        (try simp only [Act.put, List.setIfInBounds_toArray, List.set_cons_zero, List.set_cons_succ])
        refine wpAnyS_pure 10 (v := ?_) (fun _ => trivial) (by simp only [List.getElem?_toArray, List.getElem?_cons_succ, List.getElem?_cons_zero]; rfl) (by kernel_rfl) (fun _ _ _ _ _ h => h) ⟨rfl, (by intro c h; cases h), ?_⟩ hHeld ?_
        rotate_left
        focus (intro wS hSw; (try replace hSw := HSF.out wS hSw); (try dsimp only at hSw); go_simp; (try with_reducible rfl))
        (try simp only [Act.put, List.setIfInBounds_toArray, List.set_cons_zero, List.set_cons_succ])
        refine wpAnyS_done (by kernel_rfl) ?_
        clear hHeld HSF
        obtain ⟨y0, y1, y2, y3, y4, y5, y6, fzq, ltq⟩ := S2.out.xs
        have a0 := S2.out.N.cell 0; have a1 := S2.out.N.cell 1; have a2 := S2.out.N.cell 2; have a3 := S2.out.N.cell 3
        simp at a0 a1 a2 a3
        have hi1 : (if en < u then u else en) = mx1 := by rw [HM1.out]; split <;> omega
        have hi2 : (if he < m then m else he) = mx2 := by rw [HM2.out]; split <;> omega
        go_upto_region 16 with fail
        (try rw [hi1])
        (try rw [hi2])
        (try rw [← HM1.out])
        (try rw [← HM2.out])
        have S3 := hid ((S2.out.st (y := (x0, mx1, 0, false, he, gno, asv)) 1 (.int .i64 mx1) rfl).st (y := (x0, mx1, 0, false, mx2, gno, asv)) 4 (.int .i64 mx2) rfl)
        clear y0 y1 y2 y3 y4 y5 y6 fzq ltq S2 a0 a1 a2 a3 hi1 hi2
        generalize ((w3.setCell ⟨q, 1, none⟩ (.int .i64 mx1)).setCell ⟨q, 4, none⟩ (.int .i64 mx2)) = w4 at *
        have SD := hid (S3.out.below (show Below w4.heap.size w4 w4.drew by (repeat (first | exact Below.refl _ _ | assumption | refine below_drewN ?_ _ | refine Below.drew ?_ | refine Below.alloc ?_ (by (try simp); (try omega)) _ | refine Below.setCell ?_ (by (try simp); (try omega)) _))))
        clear S3
        have hkl := hid (show k < (zonesL d).length by rw [zonesL_len]; exact hk)
        have HSF := hid (fun (wq : World) (hq : wq = w4.drew) => show wq.cell? ⟨gn, 1, none⟩ = some (.int .i64 (k : Int)) ∧ wq.cell? ⟨b, 1, none⟩ = some (.slice (some ⟨g, 0, none⟩) d.home.length cc) ∧ wq.cell? ⟨q, 0, none⟩ = some (.int .i64 (x0)) ∧ wq.cell? ⟨q, 1, none⟩ = some (.int .i64 (mx1)) ∧ wq.cell? ⟨q, 2, none⟩ = some (.int .i64 (0)) ∧ wq.cell? ⟨q, 3, none⟩ = some (.bool false) ∧ wq.cell? ⟨q, 4, none⟩ = some (.int .i64 (mx2)) ∧ wq.cell? ⟨q, 5, none⟩ = some (.int .i64 (gno)) ∧ wq.cell? ⟨q, 6, none⟩ = some (.int .i64 (asv)) by
          subst hq
          obtain ⟨y0, y1, y2, y3, y4, y5, y6, -, -⟩ := SD.out.xs
          exact ⟨SD.out.N.cell 1, SD.out.R.at_.2, y0, y1, y2, y3, y4, y5, y6⟩)
        refine wpIn_wide.1 (wpIn_region_S (n := 0) (fun wq => wq = w4.drew) [8] (by kernel_rfl) rfl (fun hHeld => ?_))
        refine wpAnyS_pure 0 (v := ?_) (fun _ => trivial) (by simp only [List.getElem?_toArray, List.getElem?_cons_succ, List.getElem?_cons_zero]; rfl) (by kernel_rfl) (fun _ _ _ _ _ h => h) ⟨rfl, (by intro c h; cases h), ?_⟩ hHeld ?_
        rotate_left
        focus (intro wS hSw; (try replace hSw := HSF.out wS hSw); (try dsimp only at hSw); go_simp; (try with_reducible rfl))
        (try simp only [Act.put, List.setIfInBounds_toArray, List.set_cons_zero, List.set_cons_succ])
        refine wpAnyS_pure 1 (v := ?_) (fun _ => trivial) (by simp only [List.getElem?_toArray, List.getElem?_cons_succ, List.getElem?_cons_zero]; rfl) (by kernel_rfl) (fun _ _ _ _ _ h => h) ⟨rfl, (by intro c h; cases h), ?_⟩ hHeld ?_
        rotate_left
        focus (intro wS hSw; (try replace hSw := HSF.out wS hSw); (try dsimp only at hSw); go_simp; (try with_reducible rfl))
        (try simp only [Act.put, List.setIfInBounds_toArray, List.set_cons_zero, List.set_cons_succ])
        refine wpAnyS_pure 2 (v := ?_) (fun _ => trivial) (by simp only [List.getElem?_toArray, List.getElem?_cons_succ, List.getElem?_cons_zero]; rfl) (by kernel_rfl) (fun _ _ _ _ _ h => h) ⟨rfl, (by intro c h; cases h), ?_⟩ hHeld ?_
        rotate_left
        focus (intro wS hSw; (try replace hSw := HSF.out wS hSw); (try dsimp only at hSw); go_simp; (try with_reducible rfl))
        (try simp only [Act.put, List.setIfInBounds_toArray, List.set_cons_zero, List.set_cons_succ])
        refine wpAnyS_take 3 (v := ?_) (fun _ => trivial) (by simp only [List.getElem?_toArray, List.getElem?_cons_succ, List.getElem?_cons_zero]; rfl) (by kernel_rfl) (fun _ _ _ _ _ h => h) ⟨rfl, (by intro c h; cases h), ?_⟩ hHeld ?_
        rotate_left
        focus (intro wS hSw; (try replace hSw := HSF.out wS hSw); (try dsimp only at hSw); go_simp; (try with_reducible rfl))
        (try simp only [Act.put, List.setIfInBounds_toArray, List.set_cons_zero, List.set_cons_succ])
        refine wpAnyS_pure 4 (v := ?_) (fun _ => trivial) (by simp only [List.getElem?_toArray, List.getElem?_cons_succ, List.getElem?_cons_zero]; rfl) (by kernel_rfl) (fun _ _ _ _ _ h => h) ⟨rfl, (by intro c h; cases h), ?_⟩ hHeld ?_
        rotate_left
        focus (intro wS hSw; (try replace hSw := HSF.out wS hSw); (try dsimp only at hSw); go_simp; (try with_reducible rfl))
        (try simp only [Act.put, List.setIfInBounds_toArray, List.set_cons_zero, List.set_cons_succ])
        refine wpAnyS_take 5 (v := ?_) (fun _ => trivial) (by simp only [List.getElem?_toArray, List.getElem?_cons_succ, List.getElem?_cons_zero]; rfl) (by kernel_rfl) (fun _ _ _ _ _ h => h) ⟨rfl, (by intro c h; cases h), ?_⟩ hHeld ?_
        rotate_left
        focus (intro wS hSw; (try replace hSw := HSF.out wS hSw); (try dsimp only at hSw); go_simp; (try with_reducible rfl))
        (try simp only [Act.put, List.setIfInBounds_toArray, List.set_cons_zero, List.set_cons_succ])
        refine wpAnyS_take 6 (v := ?_) (fun _ => trivial) (by simp only [List.getElem?_toArray, List.getElem?_cons_succ, List.getElem?_cons_zero]; rfl) (by kernel_rfl) (fun _ _ _ _ _ h => h) ⟨rfl, (by intro c h; cases h), ?_⟩ hHeld ?_
        rotate_left
        focus (intro wS hSw; (try replace hSw := HSF.out wS hSw); (try dsimp only at hSw); go_simp; (try with_reducible rfl))
        (try simp only [Act.put, List.setIfInBounds_toArray, List.set_cons_zero, List.set_cons_succ])
        refine wpAnyS_pure 7 (v := ?_) (fun _ => trivial) (by simp only [List.getElem?_toArray, List.getElem?_cons_succ, List.getElem?_cons_zero]; rfl) (by kernel_rfl) (fun _ _ _ _ _ h => h) ⟨rfl, (by intro c h; cases h), ?_⟩ hHeld ?_
        rotate_left
        focus (intro wS hSw; (try replace hSw := HSF.out wS hSw); (try dsimp only at hSw); go_simp; (try with_reducible rfl))
        (try simp only [Act.put, List.setIfInBounds_toArray, List.set_cons_zero, List.set_cons_succ])
        generalize w4.drew = wd at *
        refine wpAnyS_ready [8] (by kernel_rfl) (by simp) (AllReadyS.consL (by simp only [List.getElem?_toArray, List.getElem?_cons_succ, List.getElem?_cons_zero]; rfl) rfl (by kernel_rfl) (fun K hK => ?_) AllReadyS.nil)
        refine storeZS (fun _ => trivial) (.tmp 79) (.tmp 78) rfl (z := (x0, mx1, 0, false, mx2, gno, asv)) rfl rfl SD.out.R.r hkl.out ?_
        intro w9 o9 g9
        refine hK.out _ _ ?_
        (try simp only [Act.put, List.setIfInBounds_toArray, List.set_cons_zero, List.set_cons_succ])
        clear hK K hHeld HSF
        have R9 := hid (SD.out.R.put o9 g9 G3.out HZ.out HME.out)
        have N9 := hid (SD.out.N.grown g9 (fun e => own_blk_ne SD.out.R.r SD.out.N (by decide) (by rw [e]; rfl)))
        have X9 := hid (SD.out.X.grown g9 (fun e => SD.out.qg (by injection e with e; exact e.symm)))
        have GB := hid (gr_tr (gr_below SD.out.B (some g)) g9)
        clear o9 g9 SD
        refine wpAnyS_done (by kernel_rfl) ?_
        go_wp2_with fail
        go_ret
        exact ⟨rfl, R9.out, GB.out⟩
      · as_aux_lemma =>
        have e : hearF d (1, (k : Int), u, m) = (0, d) := by
          unfold hearF
          simp only
          rw [if_neg (by omega)]
          have hd : decide ((1 : Int) ≠ 1) = false := by decide
          rw [hd, hl]
          rw [if_pos rfl, if_pos trivial, if_neg hs]
        have HZ := hid (show zonesL d = (zonesL d).set k (d.home.getD k 0, (d.gs k).1, 0, false, (d.gs k).2.1, (d.gs k).2.2.1, (d.gs k).2.2.2) by
          have h9 := zonesL_same hk
          rw [hzz] at h9
          exact h9)
        have HME := hid (show d.me = d.me from rfl)
        rw [show d.home.getD k 0 = (zoneOf d k).1 from rfl] at HZ
        rw [e]
        clear hl e ok hp
        go_enter Tryd.func26, Tryd.ntmps26
        go_upto_region 1 with fail
        have NZ := hid (Blk.new w 26 #[.int .i64 1, .int .i64 (k : Int), .int .i64 u, .int .i64 m])
        have B1 := hid (show Below w.heap.size w (w.alloc (Obj.cells #[.int .i64 1, .int .i64 (k : Int), .int .i64 u, .int .i64 m] 26)) by (repeat (first | exact Below.refl _ _ | assumption | refine below_drewN ?_ _ | refine Below.drew ?_ | refine Below.alloc ?_ (by (try simp); (try omega)) _ | refine Below.setCell ?_ (by (try simp); (try omega)) _)))
        generalize (w.alloc (Obj.cells #[.int .i64 1, .int .i64 (k : Int), .int .i64 u, .int .i64 m] 26)) = w1 at *
        obtain ⟨gn, hgn⟩ : ∃ gn, gn = w.heap.size := ⟨_, rfl⟩
        rw [← hgn] at NZ ⊢
        have HGN := hid (Nat.le_of_eq hgn.symm)
        clear hgn
        have R1 := hid (h.below B1.out)
        have a0 := NZ.out.cell 0; have a1 := NZ.out.cell 1; have a2 := NZ.out.cell 2; have a3 := NZ.out.cell 3
        simp at a0 a1 a2 a3
        have TH := hid (there_yes R1.out hz.1 hz.2)
        obtain ⟨d0, d1⟩ := R1.out.at_
        obtain ⟨g, rfl, g1, g2, g3, -, z0, z1, z2, z3, z4, z5, z6, fzz⟩ := R1.out.zone hk
        obtain ⟨zz, hzz⟩ : ∃ zz, zz = zoneOf d k := ⟨_, rfl⟩
        rw [← hzz] at z0 z1 z2 z3 z4 z5 z6
        have HZZ := hid hzz
        clear hzz
        obtain ⟨x0, x1, x2, x3, x4, x5, x6⟩ := zz
        simp only at z0 z1 z2 z3 z4 z5 z6
        rw [← HZZ.out] at HZ
        simp only at HZ
        have hq := HZZ.out
        rw [hzz] at hq
        simp only [Prod.mk.injEq] at hq
        obtain ⟨r0, rfl, rfl, rfl, rfl, rfl, rfl⟩ := hq
        have hx0 : x0 ≠ d.me := by rw [r0]; exact hm
        have hxb : (x0 == d.me) = false := by simpa using hx0
        have hr0 := hid r0
        clear r0 hzz hm hz h HZZ
        generalize (d.gs k).1 = en at *
        generalize (d.gs k).2.1 = he at *
        generalize (d.gs k).2.2.1 = gno at *
        generalize (d.gs k).2.2.2 = asv at *
        go_wp2_with fail
        refine TH.out.mono ?_
        rintro e wa ⟨rfl, rfl⟩
        clear TH
        have G3 := hid g3
        have GLT := hid g1
        clear g1 g2 g3
        go_upto_region 3 with fail
        clear a0 a1 a2 a3 d0 d1
        have BD := hid ((Below.refl w1.heap.size w1).drew)
        have HSF := hid (fun (wq : World) (hq : Below w1.heap.size w1 wq) => show wq.cell? ⟨b, 1, none⟩ = some (.slice (some ⟨g, 0, none⟩) d.home.length cc) ∧ wq.cell? ⟨gn, 1, none⟩ = some (.int .i64 (k : Int)) ∧ wq.cell? ⟨g, k * 7, none⟩ = some (.int .i64 x0) ∧ wq.cell? ⟨g, k * 7 + 1, none⟩ = some (.int .i64 en) ∧ wq.cell? ⟨g, k * 7 + 2, none⟩ = some (.int .i64 0) ∧ wq.cell? ⟨g, k * 7 + 3, none⟩ = some (.bool false) ∧ wq.cell? ⟨g, k * 7 + 4, none⟩ = some (.int .i64 he) ∧ wq.cell? ⟨g, k * 7 + 5, none⟩ = some (.int .i64 gno) ∧ wq.cell? ⟨g, k * 7 + 6, none⟩ = some (.int .i64 asv) from
          ⟨(R1.out.below hq).at_.2, (NZ.out.below hq NZ.out.lt).cell 1, (bcell hq g _ GLT.out).trans z0, (bcell hq g _ GLT.out).trans z1, (bcell hq g _ GLT.out).trans z2, (bcell hq g _ GLT.out).trans z3, (bcell hq g _ GLT.out).trans z4, (bcell hq g _ GLT.out).trans z5, (bcell hq g _ GLT.out).trans z6⟩)
        clear z0 z1 z2 z3 z4 z5 z6 fzz
        refine wpIn_wide.1 (wpIn_region_S (n := 0) (fun wq => Below w1.heap.size w1 wq) [9] (by kernel_rfl) BD.out (fun hHeld => ?_))
        generalize w1.drew = wd at *
        refine wpAnyS_pure 0 (v := ?_) (fun _ => trivial) (by simp only [List.getElem?_toArray, List.getElem?_cons_succ, List.getElem?_cons_zero]; rfl) (by kernel_rfl) (fun _ _ _ _ _ h => h) ⟨rfl, (by intro c h; cases h), ?_⟩ hHeld ?_
        rotate_left
        focus (intro wS hSw; (try replace hSw := HSF.out wS hSw); (try dsimp only at hSw); go_simp; (try with_reducible rfl))
        (try simp only [Act.put, List.setIfInBounds_toArray, List.set_cons_zero, List.set_cons_succ])
        refine wpAnyS_pure 1 (v := ?_) (fun _ => trivial) (by simp only [List.getElem?_toArray, List.getElem?_cons_succ, List.getElem?_cons_zero]; rfl) (by kernel_rfl) (fun _ _ _ _ _ h => h) ⟨rfl, (by intro c h; cases h), ?_⟩ hHeld ?_
        rotate_left
        focus (intro wS hSw; (try replace hSw := HSF.out wS hSw); (try dsimp only at hSw); go_simp; (try with_reducible rfl))
        (try simp only [Act.put, List.setIfInBounds_toArray, List.set_cons_zero, List.set_cons_succ])
        refine wpAnyS_pure 2 (v := ?_) (fun _ => trivial) (by simp only [List.getElem?_toArray, List.getElem?_cons_succ, List.getElem?_cons_zero]; rfl) (by kernel_rfl) (fun _ _ _ _ _ h => h) ⟨rfl, (by intro c h; cases h), ?_⟩ hHeld ?_
        rotate_left
        focus (intro wS hSw; (try replace hSw := HSF.out wS hSw); (try dsimp only at hSw); go_simp; (try with_reducible rfl))
        (try simp only [Act.put, List.setIfInBounds_toArray, List.set_cons_zero, List.set_cons_succ])
        refine wpAnyS_take 3 (v := ?_) (fun _ => trivial) (by simp only [List.getElem?_toArray, List.getElem?_cons_succ, List.getElem?_cons_zero]; rfl) (by kernel_rfl) (fun _ _ _ _ _ h => h) ⟨rfl, (by intro c h; cases h), ?_⟩ hHeld ?_
        rotate_left
        focus (intro wS hSw; (try replace hSw := HSF.out wS hSw); (try dsimp only at hSw); go_simp; (try with_reducible rfl))
        (try simp only [Act.put, List.setIfInBounds_toArray, List.set_cons_zero, List.set_cons_succ])
        refine wpAnyS_pure 4 (v := ?_) (fun _ => trivial) (by simp only [List.getElem?_toArray, List.getElem?_cons_succ, List.getElem?_cons_zero]; rfl) (by kernel_rfl) (fun _ _ _ _ _ h => h) ⟨rfl, (by intro c h; cases h), ?_⟩ hHeld ?_
        rotate_left
        focus (intro wS hSw; (try replace hSw := HSF.out wS hSw); (try dsimp only at hSw); go_simp; (try with_reducible rfl))
        (try simp only [Act.put, List.setIfInBounds_toArray, List.set_cons_zero, List.set_cons_succ])
        refine wpAnyS_take 5 (v := ?_) (fun _ => trivial) (by simp only [List.getElem?_toArray, List.getElem?_cons_succ, List.getElem?_cons_zero]; rfl) (by kernel_rfl) (fun _ _ _ _ _ h => h) ⟨rfl, (by intro c h; cases h), ?_⟩ hHeld ?_
        rotate_left
        focus (intro wS hSw; (try replace hSw := HSF.out wS hSw); (try dsimp only at hSw); go_simp; (try with_reducible rfl))
        (try simp only [Act.put, List.setIfInBounds_toArray, List.set_cons_zero, List.set_cons_succ])
        refine wpAnyS_pure 6 (v := ?_) (fun _ => trivial) (by simp only [List.getElem?_toArray, List.getElem?_cons_succ, List.getElem?_cons_zero]; rfl) (by kernel_rfl) (fun _ _ _ _ _ h => h) ⟨rfl, (by intro c h; cases h), ?_⟩ hHeld ?_
        rotate_left
        focus (intro wS hSw; (try replace hSw := HSF.out wS hSw); (try dsimp only at hSw); go_simp; (try with_reducible rfl))
        (try simp only [Act.put, List.setIfInBounds_toArray, List.set_cons_zero, List.set_cons_succ])
        refine wpAnyS_take 7 (v := ?_) (fun _ => trivial) (by simp only [List.getElem?_toArray, List.getElem?_cons_succ, List.getElem?_cons_zero]; rfl) (by kernel_rfl) (fun _ _ _ _ _ h => h) ⟨rfl, (by intro c h; cases h), ?_⟩ hHeld ?_
        rotate_left
        focus (intro wS hSw; (try replace hSw := HSF.out wS hSw); (try dsimp only at hSw); go_simp; (try with_reducible rfl))
        (try simp only [Act.put, List.setIfInBounds_toArray, List.set_cons_zero, List.set_cons_succ])
        refine wpAnyS_ready [8] (by kernel_rfl) (by simp) (AllReadyS.cons (by simp only [List.getElem?_toArray, List.getElem?_cons_succ, List.getElem?_cons_zero]; rfl) rfl (fun K hK => ?_) AllReadyS.nil)
        refine allocZS (fun _ => trivial) rfl ?_
        refine hK.out _ _ (BD.out.alloc BD.out.size _) ?_
        clear hK K hHeld
        (try simp only [Act.put, List.setIfInBounds_toArray, List.set_cons_zero, List.set_cons_succ])
        refine wpAnyS_ready [9] (by kernel_rfl) (by simp) (AllReadyS.consL (by simp only [List.getElem?_toArray, List.getElem?_cons_succ, List.getElem?_cons_zero]; rfl) rfl (by kernel_rfl) (fun K hK => ?_) AllReadyS.nil)
        refine storeNZ (fun _ => trivial) (.tmp 5) (.tmp 28) rfl (z := (x0, en, 0, false, he, gno, asv)) rfl rfl ?_
        refine hK.out _ _ ?_
        clear hK K HSF
        (try simp only [Act.put, List.setIfInBounds_toArray, List.set_cons_zero, List.set_cons_succ])
        have ba := hid (BD.out.alloc BD.out.size (Obj.cells (znRK.cs (x0, en, 0, false, he, gno, asv)).toArray 90))
        have S1 := hid (show GH w (wd.alloc (Obj.cells (znRK.cs (x0, en, 0, false, he, gno, asv)).toArray 90)) base b g d.home.length cc gn wd.heap.size d #[.int .i64 1, .int .i64 (k : Int), .int .i64 u, .int .i64 m] (x0, en, 0, false, he, gno, asv) from
          ⟨R1.out.below ba.out, NZ.out.below ba.out NZ.out.lt, Blk.new wd _ _, B1.out.trans (ba.out.mono B1.out.size), by have := GLT.out; have := BD.out.size; omega, HGN.out, Nat.le_trans B1.out.size BD.out.size⟩)
        clear NZ R1 B1 ba GLT BD
        generalize (wd.alloc (Obj.cells (znRK.cs (x0, en, 0, false, he, gno, asv)).toArray 90)) = w2 at *
        generalize wd.heap.size = q at *
        refine wpAnyS_done (by kernel_rfl) ?_
        go_upto_region 4 with fail
        have S2 := hid (S1.out.below (show Below w2.heap.size w2 w2.drew by (repeat (first | exact Below.refl _ _ | assumption | refine below_drewN ?_ _ | refine Below.drew ?_ | refine Below.alloc ?_ (by (try simp); (try omega)) _ | refine Below.setCell ?_ (by (try simp); (try omega)) _))))
        clear S1
        have HSF := hid (fun (wq : World) (hq : wq.cell? ⟨b, 0, none⟩ = some (.int .i64 d.me) ∧ wq.cell? ⟨q, 0, none⟩ = some (.int .i64 x0) ∧ wq.cell? ⟨gn, 0, none⟩ = some (.int .i64 1)) => hq)
        refine wpIn_wide.1 (wpIn_region_S (n := 0) (fun wq => wq.cell? ⟨b, 0, none⟩ = some (.int .i64 d.me) ∧ wq.cell? ⟨q, 0, none⟩ = some (.int .i64 x0) ∧ wq.cell? ⟨gn, 0, none⟩ = some (.int .i64 1)) [] (by kernel_rfl) ⟨S2.out.R.at_.1, S2.out.xs.1, S2.out.N.cell 0⟩ (fun hHeld => ?_))
        generalize w2.drew = w3 at *
        refine wpAnyS_pure 0 (v := ?_) (fun _ => trivial) (by simp only [List.getElem?_toArray, List.getElem?_cons_succ, List.getElem?_cons_zero]; rfl) (by kernel_rfl) (fun _ _ _ _ _ h => h) ⟨rfl, (by intro c h; cases h), ?_⟩ hHeld ?_
        rotate_left
        focus (intro wS hSw; (try replace hSw := HSF.out wS hSw); (try dsimp only at hSw); go_simp; (try with_reducible rfl))
        (try simp only [Act.put, List.setIfInBounds_toArray, List.set_cons_zero, List.set_cons_succ])
        refine wpAnyS_take 1 (v := ?_) (fun _ => trivial) (by simp only [List.getElem?_toArray, List.getElem?_cons_succ, List.getElem?_cons_zero]; rfl) (by kernel_rfl) (fun _ _ _ _ _ h => h) ⟨rfl, (by intro c h; cases h), ?_⟩ hHeld ?_
        rotate_left
        focus (intro wS hSw; (try replace hSw := HSF.out wS hSw); (try dsimp only at hSw); go_simp; (try with_reducible rfl))
        (try simp only [Act.put, List.setIfInBounds_toArray, List.set_cons_zero, List.set_cons_succ])
        refine wpAnyS_pure 2 (v := ?_) (fun _ => trivial) (by simp only [List.getElem?_toArray, List.getElem?_cons_succ, List.getElem?_cons_zero]; rfl) (by kernel_rfl) (fun _ _ _ _ _ h => h) ⟨rfl, (by intro c h; cases h), ?_⟩ hHeld ?_
        rotate_left
        focus (intro wS hSw; (try replace hSw := HSF.out wS hSw); (try dsimp only at hSw); go_simp; (try with_reducible rfl))
        (try simp only [Act.put, List.setIfInBounds_toArray, List.set_cons_zero, List.set_cons_succ])
        refine wpAnyS_pure 3 (v := ?_) (fun _ => trivial) (by simp only [List.getElem?_toArray, List.getElem?_cons_succ, List.getElem?_cons_zero]; rfl) (by kernel_rfl) (fun _ _ _ _ _ h => h) ⟨rfl, (by intro c h; cases h), ?_⟩ hHeld ?_
        rotate_left
        focus (intro wS hSw; (try replace hSw := HSF.out wS hSw); (try dsimp only at hSw); go_simp; (try with_reducible rfl))
        (try simp only [Act.put, List.setIfInBounds_toArray, List.set_cons_zero, List.set_cons_succ])
        refine wpAnyS_pure 4 (v := ?_) (fun _ => trivial) (by simp only [List.getElem?_toArray, List.getElem?_cons_succ, List.getElem?_cons_zero]; rfl) (by kernel_rfl) (fun _ _ _ _ _ h => h) ⟨rfl, (by intro c h; cases h), ?_⟩ hHeld ?_
        rotate_left
        focus (intro wS hSw; (try replace hSw := HSF.out wS hSw); (try dsimp only at hSw); go_simp; (try with_reducible rfl))
        (try simp only [Act.put, List.setIfInBounds_toArray, List.set_cons_zero, List.set_cons_succ])
        refine wpAnyS_take 5 (v := ?_) (fun _ => trivial) (by simp only [List.getElem?_toArray, List.getElem?_cons_succ, List.getElem?_cons_zero]; rfl) (by kernel_rfl) (fun _ _ _ _ _ h => h) ⟨rfl, (by intro c h; cases h), ?_⟩ hHeld ?_
        rotate_left
        focus (intro wS hSw; (try replace hSw := HSF.out wS hSw); (try dsimp only at hSw); go_simp; (try with_reducible rfl))
        (try simp only [Act.put, List.setIfInBounds_toArray, List.set_cons_zero, List.set_cons_succ])
        refine wpAnyS_pure 6 (v := ?_) (fun _ => trivial) (by simp only [List.getElem?_toArray, List.getElem?_cons_succ, List.getElem?_cons_zero]; rfl) (by kernel_rfl) (fun _ _ _ _ _ h => h) ⟨rfl, (by intro c h; cases h), ?_⟩ hHeld ?_
        rotate_left
        focus (intro wS hSw; (try replace hSw := HSF.out wS hSw); (try dsimp only at hSw); go_simp; (try with_reducible rfl))
        (try simp only [Act.put, List.setIfInBounds_toArray, List.set_cons_zero, List.set_cons_succ])
        refine wpAnyS_pure 7 (v := ?_) (fun _ => trivial) (by simp only [List.getElem?_toArray, List.getElem?_cons_succ, List.getElem?_cons_zero]; rfl) (by kernel_rfl) (fun _ _ _ _ _ h => h) ⟨rfl, (by intro c h; cases h), ?_⟩ hHeld ?_
        rotate_left
        focus (intro wS hSw; (try replace hSw := HSF.out wS hSw); (try dsimp only at hSw); go_simp; (try with_reducible rfl))
        (try simp only [Act.put, List.setIfInBounds_toArray, List.set_cons_zero, List.set_cons_succ])
        refine wpAnyS_take 8 (v := ?_) (fun _ => trivial) (by simp only [List.getElem?_toArray, List.getElem?_cons_succ, List.getElem?_cons_zero]; rfl) (by kernel_rfl) (fun _ _ _ _ _ h => h) ⟨rfl, (by intro c h; cases h), ?_⟩ hHeld ?_
        rotate_left
        focus (intro wS hSw; (try replace hSw := HSF.out wS hSw); (try dsimp only at hSw); go_simp; (try with_reducible rfl))
        (try simp only [Act.put, List.setIfInBounds_toArray, List.set_cons_zero, List.set_cons_succ])
        refine wpAnyS_pure 9 (v := ?_) (fun _ => trivial) (by simp only [List.getElem?_toArray, List.getElem?_cons_succ, List.getElem?_cons_zero]; rfl) (by kernel_rfl) (fun _ _ _ _ _ h => h) ⟨rfl, (by intro c h; cases h), ?_⟩ hHeld ?_
        rotate_left
        focus (intro wS hSw; (try replace hSw := HSF.out wS hSw); (try dsimp only at hSw); go_simp; (try with_reducible rfl))
        (try simp only [Act.put, List.setIfInBounds_toArray, List.set_cons_zero, List.set_cons_succ])
        refine wpAnyS_pure 10 (v := ?_) (fun _ => trivial) (by simp only [List.getElem?_toArray, List.getElem?_cons_succ, List.getElem?_cons_zero]; rfl) (by kernel_rfl) (fun _ _ _ _ _ h => h) ⟨rfl, (by intro c h; cases h), ?_⟩ hHeld ?_
        rotate_left
        focus (intro wS hSw; (try replace hSw := HSF.out wS hSw); (try dsimp only at hSw); go_simp; (try with_reducible rfl))
        (try simp only [Act.put, List.setIfInBounds_toArray, List.set_cons_zero, List.set_cons_succ])
        refine wpAnyS_done (by kernel_rfl) ?_
        clear hHeld HSF
        obtain ⟨y0, y1, y2, y3, y4, y5, y6, fzq, ltq⟩ := S2.out.xs
        have a0 := S2.out.N.cell 0; have a1 := S2.out.N.cell 1; have a2 := S2.out.N.cell 2; have a3 := S2.out.N.cell 3
        simp at a0 a1 a2 a3
        go_upto_region 16 with fail
        have S3 := S2
        clear y0 y1 y2 y3 y4 y5 y6 fzq ltq S2 a0 a1 a2 a3
        have SD := hid (S3.out.below (show Below w3.heap.size w3 w3.drew by (repeat (first | exact Below.refl _ _ | assumption | refine below_drewN ?_ _ | refine Below.drew ?_ | refine Below.alloc ?_ (by (try simp); (try omega)) _ | refine Below.setCell ?_ (by (try simp); (try omega)) _))))
        clear S3
        have hkl := hid (show k < (zonesL d).length by rw [zonesL_len]; exact hk)
        have HSF := hid (fun (wq : World) (hq : wq = w3.drew) => show wq.cell? ⟨gn, 1, none⟩ = some (.int .i64 (k : Int)) ∧ wq.cell? ⟨b, 1, none⟩ = some (.slice (some ⟨g, 0, none⟩) d.home.length cc) ∧ wq.cell? ⟨q, 0, none⟩ = some (.int .i64 (x0)) ∧ wq.cell? ⟨q, 1, none⟩ = some (.int .i64 (en)) ∧ wq.cell? ⟨q, 2, none⟩ = some (.int .i64 (0)) ∧ wq.cell? ⟨q, 3, none⟩ = some (.bool false) ∧ wq.cell? ⟨q, 4, none⟩ = some (.int .i64 (he)) ∧ wq.cell? ⟨q, 5, none⟩ = some (.int .i64 (gno)) ∧ wq.cell? ⟨q, 6, none⟩ = some (.int .i64 (asv)) by
          subst hq
          obtain ⟨y0, y1, y2, y3, y4, y5, y6, -, -⟩ := SD.out.xs
          exact ⟨SD.out.N.cell 1, SD.out.R.at_.2, y0, y1, y2, y3, y4, y5, y6⟩)
        refine wpIn_wide.1 (wpIn_region_S (n := 0) (fun wq => wq = w3.drew) [8] (by kernel_rfl) rfl (fun hHeld => ?_))
        refine wpAnyS_pure 0 (v := ?_) (fun _ => trivial) (by simp only [List.getElem?_toArray, List.getElem?_cons_succ, List.getElem?_cons_zero]; rfl) (by kernel_rfl) (fun _ _ _ _ _ h => h) ⟨rfl, (by intro c h; cases h), ?_⟩ hHeld ?_
        rotate_left
        focus (intro wS hSw; (try replace hSw := HSF.out wS hSw); (try dsimp only at hSw); go_simp; (try with_reducible rfl))
        (try simp only [Act.put, List.setIfInBounds_toArray, List.set_cons_zero, List.set_cons_succ])
        refine wpAnyS_pure 1 (v := ?_) (fun _ => trivial) (by simp only [List.getElem?_toArray, List.getElem?_cons_succ, List.getElem?_cons_zero]; rfl) (by kernel_rfl) (fun _ _ _ _ _ h => h) ⟨rfl, (by intro c h; cases h), ?_⟩ hHeld ?_
        rotate_left
        focus (intro wS hSw; (try replace hSw := HSF.out wS hSw); (try dsimp only at hSw); go_simp; (try with_reducible rfl))
        (try simp only [Act.put, List.setIfInBounds_toArray, List.set_cons_zero, List.set_cons_succ])
        refine wpAnyS_pure 2 (v := ?_) (fun _ => trivial) (by simp only [List.getElem?_toArray, List.getElem?_cons_succ, List.getElem?_cons_zero]; rfl) (by kernel_rfl) (fun _ _ _ _ _ h => h) ⟨rfl, (by intro c h; cases h), ?_⟩ hHeld ?_
        rotate_left
        focus (intro wS hSw; (try replace hSw := HSF.out wS hSw); (try dsimp only at hSw); go_simp; (try with_reducible rfl))
        (try simp only [Act.put, List.setIfInBounds_toArray, List.set_cons_zero, List.set_cons_succ])
        refine wpAnyS_take 3 (v := ?_) (fun _ => trivial) (by simp only [List.getElem?_toArray, List.getElem?_cons_succ, List.getElem?_cons_zero]; rfl) (by kernel_rfl) (fun _ _ _ _ _ h => h) ⟨rfl, (by intro c h; cases h), ?_⟩ hHeld ?_
        rotate_left
        focus (intro wS hSw; (try replace hSw := HSF.out wS hSw); (try dsimp only at hSw); go_simp; (try with_reducible rfl))
        (try simp only [Act.put, List.setIfInBounds_toArray, List.set_cons_zero, List.set_cons_succ])
        refine wpAnyS_pure 4 (v := ?_) (fun _ => trivial) (by simp only [List.getElem?_toArray, List.getElem?_cons_succ, List.getElem?_cons_zero]; rfl) (by kernel_rfl) (fun _ _ _ _ _ h => h) ⟨rfl, (by intro c h; cases h), ?_⟩ hHeld ?_
        rotate_left
        focus (intro wS hSw; (try replace hSw := HSF.out wS hSw); (try dsimp only at hSw); go_simp; (try with_reducible rfl))
        (try simp only [Act.put, List.setIfInBounds_toArray, List.set_cons_zero, List.set_cons_succ])
        refine wpAnyS_take 5 (v := ?_) (fun _ => trivial) (by simp only [List.getElem?_toArray, List.getElem?_cons_succ, List.getElem?_cons_zero]; rfl) (by kernel_rfl) (fun _ _ _ _ _ h => h) ⟨rfl, (by intro c h; cases h), ?_⟩ hHeld ?_
        rotate_left
        focus (intro wS hSw; (try replace hSw := HSF.out wS hSw); (try dsimp only at hSw); go_simp; (try with_reducible rfl))
        (try simp only [Act.put, List.setIfInBounds_toArray, List.set_cons_zero, List.set_cons_succ])
        refine wpAnyS_take 6 (v := ?_) (fun _ => trivial) (by simp only [List.getElem?_toArray, List.getElem?_cons_succ, List.getElem?_cons_zero]; rfl) (by kernel_rfl) (fun _ _ _ _ _ h => h) ⟨rfl, (by intro c h; cases h), ?_⟩ hHeld ?_
        rotate_left
        focus (intro wS hSw; (try replace hSw := HSF.out wS hSw); (try dsimp only at hSw); go_simp; (try with_reducible rfl))
        (try simp only [Act.put, List.setIfInBounds_toArray, List.set_cons_zero, List.set_cons_succ])
        refine wpAnyS_pure 7 (v := ?_) (fun _ => trivial) (by simp only [List.getElem?_toArray, List.getElem?_cons_succ, List.getElem?_cons_zero]; rfl) (by kernel_rfl) (fun _ _ _ _ _ h => h) ⟨rfl, (by intro c h; cases h), ?_⟩ hHeld ?_
        rotate_left
        focus (intro wS hSw; (try replace hSw := HSF.out wS hSw); (try dsimp only at hSw); go_simp; (try with_reducible rfl))
        (try simp only [Act.put, List.setIfInBounds_toArray, List.set_cons_zero, List.set_cons_succ])
        generalize w3.drew = wd at *
        refine wpAnyS_ready [8] (by kernel_rfl) (by simp) (AllReadyS.consL (by simp only [List.getElem?_toArray, List.getElem?_cons_succ, List.getElem?_cons_zero]; rfl) rfl (by kernel_rfl) (fun K hK => ?_) AllReadyS.nil)
        refine storeZS (fun _ => trivial) (.tmp 79) (.tmp 78) rfl (z := (x0, en, 0, false, he, gno, asv)) rfl rfl SD.out.R.r hkl.out ?_
        intro w9 o9 g9
        refine hK.out _ _ ?_
        (try simp only [Act.put, List.setIfInBounds_toArray, List.set_cons_zero, List.set_cons_succ])
        clear hK K hHeld HSF
        have R9 := hid (SD.out.R.put o9 g9 G3.out HZ.out rfl)
        have N9 := hid (SD.out.N.grown g9 (fun e => own_blk_ne SD.out.R.r SD.out.N (by decide) (by rw [e]; rfl)))
        have X9 := hid (SD.out.X.grown g9 (fun e => SD.out.qg (by injection e with e; exact e.symm)))
        have GB := hid (gr_tr (gr_below SD.out.B (some g)) g9)
        clear o9 g9 SD
        refine wpAnyS_done (by kernel_rfl) ?_
        go_wp2_with fail
        go_ret
        exact ⟨rfl, R9.out, GB.out⟩
  · by_cases hm : (zoneOf d k).1 = d.me
    · have hl : lAs d (k : Int) true = 0 := by
        unfold lAs
        rw [if_neg (by omega)]
        have hm' : d.home.getD (k : Int).toNat 0 = d.me := hm
        simp only [decide_eq_true hm', ne_eq] <;> rfl
      have hp : d.gp k = false := by
        cases hq : d.gp k with
        | false => rfl
        | true => have h9 := (home_gp hk).2 hq; rw [(home_hp hk).1 hm] at h9; cases h9
      have hzz := zoneOf_h ok hp
      have hhb := ok.hb k
      by_cases hs : m = (d.hs k).2.1
      · as_aux_lemma =>
        have e : hearF d (2, (k : Int), u, m) = (0, d.setH k (0, (d.hs k).2.1, (d.hs k).2.2)) := by
          unfold hearF
          simp only
          rw [if_neg (by omega)]
          have hd : decide ((2 : Int) ≠ 1) = true := by decide
          rw [hd, hl]
          rw [if_pos rfl, if_neg (by decide), if_neg (by decide), if_pos hs]
        have HZ := hid (show zonesL (d.setH k (0, (d.hs k).2.1, (d.hs k).2.2)) = (zonesL d).set k (d.me, 0, (d.hs k).2.1, (d.hs k).2.2, 0, 0, 0) by
          rw [zonesL_set (d := d) (d' := d.setH k (0, (d.hs k).2.1, (d.hs k).2.2)) rfl hk (fun j hj => zoneOf_setH j hj), zoneH ok hp]
          rw [show d.home.getD k 0 = d.me from hm] <;> rfl)
        have HME := hid (show (d.setH k (0, (d.hs k).2.1, (d.hs k).2.2)).me = d.me from rfl)
        rw [e]
        clear hl e ok hp hhb
        generalize d.setH k (0, (d.hs k).2.1, (d.hs k).2.2) = d' at *
        subst hs
        go_enter Tryd.func26, Tryd.ntmps26
        go_upto_region 1 with fail
        have NZ := hid (Blk.new w 26 #[.int .i64 2, .int .i64 (k : Int), .int .i64 u, .int .i64 (d.hs k).2.1])
        have B1 := hid (show Below w.heap.size w (w.alloc (Obj.cells #[.int .i64 2, .int .i64 (k : Int), .int .i64 u, .int .i64 (d.hs k).2.1] 26)) by (repeat (first | exact Below.refl _ _ | assumption | refine below_drewN ?_ _ | refine Below.drew ?_ | refine Below.alloc ?_ (by (try simp); (try omega)) _ | refine Below.setCell ?_ (by (try simp); (try omega)) _)))
        generalize (w.alloc (Obj.cells #[.int .i64 2, .int .i64 (k : Int), .int .i64 u, .int .i64 (d.hs k).2.1] 26)) = w1 at *
        obtain ⟨gn, hgn⟩ : ∃ gn, gn = w.heap.size := ⟨_, rfl⟩
        rw [← hgn] at NZ ⊢
        have HGN := hid (Nat.le_of_eq hgn.symm)
        clear hgn
        have R1 := hid (h.below B1.out)
        have a0 := NZ.out.cell 0; have a1 := NZ.out.cell 1; have a2 := NZ.out.cell 2; have a3 := NZ.out.cell 3
        simp at a0 a1 a2 a3
        have TH := hid (there_yes R1.out hz.1 hz.2)
        obtain ⟨d0, d1⟩ := R1.out.at_
        obtain ⟨g, rfl, g1, g2, g3, -, z0, z1, z2, z3, z4, z5, z6, fzz⟩ := R1.out.zone hk
        obtain ⟨zz, hzz⟩ : ∃ zz, zz = zoneOf d k := ⟨_, rfl⟩
        rw [← hzz] at z0 z1 z2 z3 z4 z5 z6
        have HZZ := hid hzz
        clear hzz
        obtain ⟨x0, x1, x2, x3, x4, x5, x6⟩ := zz
        simp only at z0 z1 z2 z3 z4 z5 z6
        have hq := HZZ.out
        rw [hzz] at hq
        simp only [Prod.mk.injEq] at hq
        obtain ⟨r0, rfl, rfl, rfl, rfl, rfl, rfl⟩ := hq
        have r0' : x0 = d.me := r0.trans hm
        clear r0 hzz hm hz h HZZ
        generalize (d.hs k).2.1 = no at *
        generalize (d.hs k).1 = en at *
        generalize (d.hs k).2.2 = x3 at *
        subst r0'
        go_wp2_with fail
        refine TH.out.mono ?_
        rintro e wa ⟨rfl, rfl⟩
        clear TH
        have G3 := hid g3
        have GLT := hid g1
        clear g1 g2 g3
        go_upto_region 3 with fail
        clear a0 a1 a2 a3 d0 d1
        have BD := hid ((Below.refl w1.heap.size w1).drew)
        have HSF := hid (fun (wq : World) (hq : Below w1.heap.size w1 wq) => show wq.cell? ⟨b, 1, none⟩ = some (.slice (some ⟨g, 0, none⟩) d.home.length cc) ∧ wq.cell? ⟨gn, 1, none⟩ = some (.int .i64 (k : Int)) ∧ wq.cell? ⟨g, k * 7, none⟩ = some (.int .i64 d.me) ∧ wq.cell? ⟨g, k * 7 + 1, none⟩ = some (.int .i64 en) ∧ wq.cell? ⟨g, k * 7 + 2, none⟩ = some (.int .i64 no) ∧ wq.cell? ⟨g, k * 7 + 3, none⟩ = some (.bool x3) ∧ wq.cell? ⟨g, k * 7 + 4, none⟩ = some (.int .i64 0) ∧ wq.cell? ⟨g, k * 7 + 5, none⟩ = some (.int .i64 0) ∧ wq.cell? ⟨g, k * 7 + 6, none⟩ = some (.int .i64 0) from
          ⟨(R1.out.below hq).at_.2, (NZ.out.below hq NZ.out.lt).cell 1, (bcell hq g _ GLT.out).trans z0, (bcell hq g _ GLT.out).trans z1, (bcell hq g _ GLT.out).trans z2, (bcell hq g _ GLT.out).trans z3, (bcell hq g _ GLT.out).trans z4, (bcell hq g _ GLT.out).trans z5, (bcell hq g _ GLT.out).trans z6⟩)
        clear z0 z1 z2 z3 z4 z5 z6 fzz
        refine wpIn_wide.1 (wpIn_region_S (n := 0) (fun wq => Below w1.heap.size w1 wq) [9] (by kernel_rfl) BD.out (fun hHeld => ?_))
        generalize w1.drew = wd at *
        refine wpAnyS_pure 0 (v := ?_) (fun _ => trivial) (by simp only [List.getElem?_toArray, List.getElem?_cons_succ, List.getElem?_cons_zero]; rfl) (by kernel_rfl) (fun _ _ _ _ _ h => h) ⟨rfl, (by intro c h; cases h), ?_⟩ hHeld ?_
        rotate_left
        focus (intro wS hSw; (try replace hSw := HSF.out wS hSw); (try dsimp only at hSw); go_simp; (try with_reducible rfl))
        (try simp only [Act.put, List.setIfInBounds_toArray, List.set_cons_zero, List.set_cons_succ])
        refine wpAnyS_pure 1 (v := ?_) (fun _ => trivial) (by simp only [List.getElem?_toArray, List.getElem?_cons_succ, List.getElem?_cons_zero]; rfl) (by kernel_rfl) (fun _ _ _ _ _ h => h) ⟨rfl, (by intro c h; cases h), ?_⟩ hHeld ?_
        rotate_left
        focus (intro wS hSw; (try replace hSw := HSF.out wS hSw); (try dsimp only at hSw); go_simp; (try with_reducible rfl))
        (try simp only [Act.put, List.setIfInBounds_toArray, List.set_cons_zero, List.set_cons_succ])
        refine wpAnyS_pure 2 (v := ?_) (fun _ => trivial) (by simp only [List.getElem?_toArray, List.getElem?_cons_succ, List.getElem?_cons_zero]; rfl) (by kernel_rfl) (fun _ _ _ _ _ h => h) ⟨rfl, (by intro c h; cases h), ?_⟩ hHeld ?_
        rotate_left
        focus (intro wS hSw; (try replace hSw := HSF.out wS hSw); (try dsimp only at hSw); go_simp; (try with_reducible rfl))
        (try simp only [Act.put, List.setIfInBounds_toArray, List.set_cons_zero, List.set_cons_succ])
        refine wpAnyS_take 3 (v := ?_) (fun _ => trivial) (by simp only [List.getElem?_toArray, List.getElem?_cons_succ, List.getElem?_cons_zero]; rfl) (by kernel_rfl) (fun _ _ _ _ _ h => h) ⟨rfl, (by intro c h; cases h), ?_⟩ hHeld ?_
        rotate_left
        focus (intro wS hSw; (try replace hSw := HSF.out wS hSw); (try dsimp only at hSw); go_simp; (try with_reducible rfl))
        (try simp only [Act.put, List.setIfInBounds_toArray, List.set_cons_zero, List.set_cons_succ])
        refine wpAnyS_pure 4 (v := ?_) (fun _ => trivial) (by simp only [List.getElem?_toArray, List.getElem?_cons_succ, List.getElem?_cons_zero]; rfl) (by kernel_rfl) (fun _ _ _ _ _ h => h) ⟨rfl, (by intro c h; cases h), ?_⟩ hHeld ?_
        rotate_left
        focus (intro wS hSw; (try replace hSw := HSF.out wS hSw); (try dsimp only at hSw); go_simp; (try with_reducible rfl))
        (try simp only [Act.put, List.setIfInBounds_toArray, List.set_cons_zero, List.set_cons_succ])
        refine wpAnyS_take 5 (v := ?_) (fun _ => trivial) (by simp only [List.getElem?_toArray, List.getElem?_cons_succ, List.getElem?_cons_zero]; rfl) (by kernel_rfl) (fun _ _ _ _ _ h => h) ⟨rfl, (by intro c h; cases h), ?_⟩ hHeld ?_
        rotate_left
        focus (intro wS hSw; (try replace hSw := HSF.out wS hSw); (try dsimp only at hSw); go_simp; (try with_reducible rfl))
        (try simp only [Act.put, List.setIfInBounds_toArray, List.set_cons_zero, List.set_cons_succ])
        refine wpAnyS_pure 6 (v := ?_) (fun _ => trivial) (by simp only [List.getElem?_toArray, List.getElem?_cons_succ, List.getElem?_cons_zero]; rfl) (by kernel_rfl) (fun _ _ _ _ _ h => h) ⟨rfl, (by intro c h; cases h), ?_⟩ hHeld ?_
        rotate_left
        focus (intro wS hSw; (try replace hSw := HSF.out wS hSw); (try dsimp only at hSw); go_simp; (try with_reducible rfl))
        (try simp only [Act.put, List.setIfInBounds_toArray, List.set_cons_zero, List.set_cons_succ])
        refine wpAnyS_take 7 (v := ?_) (fun _ => trivial) (by simp only [List.getElem?_toArray, List.getElem?_cons_succ, List.getElem?_cons_zero]; rfl) (by kernel_rfl) (fun _ _ _ _ _ h => h) ⟨rfl, (by intro c h; cases h), ?_⟩ hHeld ?_
        rotate_left
        focus (intro wS hSw; (try replace hSw := HSF.out wS hSw); (try dsimp only at hSw); go_simp; (try with_reducible rfl))
        (try simp only [Act.put, List.setIfInBounds_toArray, List.set_cons_zero, List.set_cons_succ])
        refine wpAnyS_ready [8] (by kernel_rfl) (by simp) (AllReadyS.cons (by simp only [List.getElem?_toArray, List.getElem?_cons_succ, List.getElem?_cons_zero]; rfl) rfl (fun K hK => ?_) AllReadyS.nil)
        refine allocZS (fun _ => trivial) rfl ?_
        refine hK.out _ _ (BD.out.alloc BD.out.size _) ?_
        clear hK K hHeld
        (try simp only [Act.put, List.setIfInBounds_toArray, List.set_cons_zero, List.set_cons_succ])
        refine wpAnyS_ready [9] (by kernel_rfl) (by simp) (AllReadyS.consL (by simp only [List.getElem?_toArray, List.getElem?_cons_succ, List.getElem?_cons_zero]; rfl) rfl (by kernel_rfl) (fun K hK => ?_) AllReadyS.nil)
        refine storeNZ (fun _ => trivial) (.tmp 5) (.tmp 28) rfl (z := (d.me, en, no, x3, 0, 0, 0)) rfl rfl ?_
        refine hK.out _ _ ?_
        clear hK K HSF
        (try simp only [Act.put, List.setIfInBounds_toArray, List.set_cons_zero, List.set_cons_succ])
        have ba := hid (BD.out.alloc BD.out.size (Obj.cells (znRK.cs (d.me, en, no, x3, 0, 0, 0)).toArray 90))
        have S1 := hid (show GH w (wd.alloc (Obj.cells (znRK.cs (d.me, en, no, x3, 0, 0, 0)).toArray 90)) base b g d.home.length cc gn wd.heap.size d #[.int .i64 2, .int .i64 (k : Int), .int .i64 u, .int .i64 no] (d.me, en, no, x3, 0, 0, 0) from
          ⟨R1.out.below ba.out, NZ.out.below ba.out NZ.out.lt, Blk.new wd _ _, B1.out.trans (ba.out.mono B1.out.size), by have := GLT.out; have := BD.out.size; omega, HGN.out, Nat.le_trans B1.out.size BD.out.size⟩)
        clear NZ R1 B1 ba GLT BD
        generalize (wd.alloc (Obj.cells (znRK.cs (d.me, en, no, x3, 0, 0, 0)).toArray 90)) = w2 at *
        generalize wd.heap.size = q at *
        refine wpAnyS_done (by kernel_rfl) ?_
        go_upto_region 4 with fail
        have S2 := hid (S1.out.below (show Below w2.heap.size w2 w2.drew by (repeat (first | exact Below.refl _ _ | assumption | refine below_drewN ?_ _ | refine Below.drew ?_ | refine Below.alloc ?_ (by (try simp); (try omega)) _ | refine Below.setCell ?_ (by (try simp); (try omega)) _))))
        clear S1
        have HSF := hid (fun (wq : World) (hq : wq.cell? ⟨b, 0, none⟩ = some (.int .i64 d.me) ∧ wq.cell? ⟨q, 0, none⟩ = some (.int .i64 d.me) ∧ wq.cell? ⟨gn, 0, none⟩ = some (.int .i64 2)) => hq)
        refine wpIn_wide.1 (wpIn_region_S (n := 0) (fun wq => wq.cell? ⟨b, 0, none⟩ = some (.int .i64 d.me) ∧ wq.cell? ⟨q, 0, none⟩ = some (.int .i64 d.me) ∧ wq.cell? ⟨gn, 0, none⟩ = some (.int .i64 2)) [] (by kernel_rfl) ⟨S2.out.R.at_.1, S2.out.xs.1, S2.out.N.cell 0⟩ (fun hHeld => ?_))
        generalize w2.drew = w3 at *
        refine wpAnyS_pure 0 (v := ?_) (fun _ => trivial) (by simp only [List.getElem?_toArray, List.getElem?_cons_succ, List.getElem?_cons_zero]; rfl) (by kernel_rfl) (fun _ _ _ _ _ h => h) ⟨rfl, (by intro c h; cases h), ?_⟩ hHeld ?_
        rotate_left
        focus (intro wS hSw; (try replace hSw := HSF.out wS hSw); (try dsimp only at hSw); go_simp; (try with_reducible rfl))
        (try simp only [Act.put, List.setIfInBounds_toArray, List.set_cons_zero, List.set_cons_succ])
        refine wpAnyS_take 1 (v := ?_) (fun _ => trivial) (by simp only [List.getElem?_toArray, List.getElem?_cons_succ, List.getElem?_cons_zero]; rfl) (by kernel_rfl) (fun _ _ _ _ _ h => h) ⟨rfl, (by intro c h; cases h), ?_⟩ hHeld ?_
        rotate_left
        focus (intro wS hSw; (try replace hSw := HSF.out wS hSw); (try dsimp only at hSw); go_simp; (try with_reducible rfl))
        (try simp only [Act.put, List.setIfInBounds_toArray, List.set_cons_zero, List.set_cons_succ])
        refine wpAnyS_pure 2 (v := ?_) (fun _ => trivial) (by simp only [List.getElem?_toArray, List.getElem?_cons_succ, List.getElem?_cons_zero]; rfl) (by kernel_rfl) (fun _ _ _ _ _ h => h) ⟨rfl, (by intro c h; cases h), ?_⟩ hHeld ?_
        rotate_left
        focus (intro wS hSw; (try replace hSw := HSF.out wS hSw); (try dsimp only at hSw); go_simp; (try with_reducible rfl))
        (try simp only [Act.put, List.setIfInBounds_toArray, List.set_cons_zero, List.set_cons_succ])
        refine wpAnyS_pure 3 (v := ?_) (fun _ => trivial) (by simp only [List.getElem?_toArray, List.getElem?_cons_succ, List.getElem?_cons_zero]; rfl) (by kernel_rfl) (fun _ _ _ _ _ h => h) ⟨rfl, (by intro c h; cases h), ?_⟩ hHeld ?_
        rotate_left
        focus (intro wS hSw; (try replace hSw := HSF.out wS hSw); (try dsimp only at hSw); go_simp; (try with_reducible rfl))
        (try simp only [Act.put, List.setIfInBounds_toArray, List.set_cons_zero, List.set_cons_succ])
        refine wpAnyS_pure 4 (v := ?_) (fun _ => trivial) (by simp only [List.getElem?_toArray, List.getElem?_cons_succ, List.getElem?_cons_zero]; rfl) (by kernel_rfl) (fun _ _ _ _ _ h => h) ⟨rfl, (by intro c h; cases h), ?_⟩ hHeld ?_
        rotate_left
        focus (intro wS hSw; (try replace hSw := HSF.out wS hSw); (try dsimp only at hSw); go_simp; (try with_reducible rfl))
        (try simp only [Act.put, List.setIfInBounds_toArray, List.set_cons_zero, List.set_cons_succ])
        refine wpAnyS_take 5 (v := ?_) (fun _ => trivial) (by simp only [List.getElem?_toArray, List.getElem?_cons_succ, List.getElem?_cons_zero]; rfl) (by kernel_rfl) (fun _ _ _ _ _ h => h) ⟨rfl, (by intro c h; cases h), ?_⟩ hHeld ?_
        rotate_left
        focus (intro wS hSw; (try replace hSw := HSF.out wS hSw); (try dsimp only at hSw); go_simp; (try with_reducible rfl))
        (try simp only [Act.put, List.setIfInBounds_toArray, List.set_cons_zero, List.set_cons_succ])
        refine wpAnyS_pure 6 (v := ?_) (fun _ => trivial) (by simp only [List.getElem?_toArray, List.getElem?_cons_succ, List.getElem?_cons_zero]; rfl) (by kernel_rfl) (fun _ _ _ _ _ h => h) ⟨rfl, (by intro c h; cases h), ?_⟩ hHeld ?_
        rotate_left
        focus (intro wS hSw; (try replace hSw := HSF.out wS hSw); (try dsimp only at hSw); go_simp; (try with_reducible rfl))
        (try simp only [Act.put, List.setIfInBounds_toArray, List.set_cons_zero, List.set_cons_succ])
        refine wpAnyS_pure 7 (v := ?_) (fun _ => trivial) (by simp only [List.getElem?_toArray, List.getElem?_cons_succ, List.getElem?_cons_zero]; rfl) (by kernel_rfl) (fun _ _ _ _ _ h => h) ⟨rfl, (by intro c h; cases h), ?_⟩ hHeld ?_
        rotate_left
        focus (intro wS hSw; (try replace hSw := HSF.out wS hSw); (try dsimp only at hSw); go_simp; (try with_reducible rfl))
        (try simp only [Act.put, List.setIfInBounds_toArray, List.set_cons_zero, List.set_cons_succ])
        refine wpAnyS_take 8 (v := ?_) (fun _ => trivial) (by simp only [List.getElem?_toArray, List.getElem?_cons_succ, List.getElem?_cons_zero]; rfl) (by kernel_rfl) (fun _ _ _ _ _ h => h) ⟨rfl, (by intro c h; cases h), ?_⟩ hHeld ?_
        rotate_left
        focus (intro wS hSw; (try replace hSw := HSF.out wS hSw); (try dsimp only at hSw); go_simp; (try with_reducible rfl))
        (try simp only [Act.put, List.setIfInBounds_toArray, List.set_cons_zero, List.set_cons_succ])
        refine wpAnyS_pure 9 (v := ?_) (fun _ => trivial) (by simp only [List.getElem?_toArray, List.getElem?_cons_succ, List.getElem?_cons_zero]; rfl) (by kernel_rfl) (fun _ _ _ _ _ h => h) ⟨rfl, (by intro c h; cases h), ?_⟩ hHeld ?_
        rotate_left
        focus (intro wS hSw; (try replace hSw := HSF.out wS hSw); (try dsimp only at hSw); go_simp; (try with_reducible rfl))
        (try simp only [Act.put, List.setIfInBounds_toArray, List.set_cons_zero, List.set_cons_succ])
        refine wpAnyS_pure 10 (v := ?_) (fun _ => trivial) (by simp only [List.getElem?_toArray, List.getElem?_cons_succ, List.getElem?_cons_zero]; rfl) (by kernel_rfl) (fun _ _ _ _ _ h => h) ⟨rfl, (by intro c h; cases h), ?_⟩ hHeld ?_
        rotate_left
        focus (intro wS hSw; (try replace hSw := HSF.out wS hSw); (try dsimp only at hSw); go_simp; (try with_reducible rfl))
        (try simp only [Act.put, List.setIfInBounds_toArray, List.set_cons_zero, List.set_cons_succ])
        refine wpAnyS_done (by kernel_rfl) ?_
        clear hHeld HSF
        obtain ⟨y0, y1, y2, y3, y4, y5, y6, fzq, ltq⟩ := S2.out.xs
        have a0 := S2.out.N.cell 0; have a1 := S2.out.N.cell 1; have a2 := S2.out.N.cell 2; have a3 := S2.out.N.cell 3
        simp at a0 a1 a2 a3
        go_upto_region 16 with fail
        have S3 := hid (S2.out.st (y := (d.me, 0, no, x3, 0, 0, 0)) 1 (.int .i64 0) rfl)
        clear y0 y1 y2 y3 y4 y5 y6 fzq ltq S2 a0 a1 a2 a3
        generalize (w3.setCell ⟨q, 1, none⟩ (.int .i64 0)) = w4 at *
        have SD := hid (S3.out.below (show Below w4.heap.size w4 w4.drew by (repeat (first | exact Below.refl _ _ | assumption | refine below_drewN ?_ _ | refine Below.drew ?_ | refine Below.alloc ?_ (by (try simp); (try omega)) _ | refine Below.setCell ?_ (by (try simp); (try omega)) _))))
        clear S3
        have hkl := hid (show k < (zonesL d).length by rw [zonesL_len]; exact hk)
        have HSF := hid (fun (wq : World) (hq : wq = w4.drew) => show wq.cell? ⟨gn, 1, none⟩ = some (.int .i64 (k : Int)) ∧ wq.cell? ⟨b, 1, none⟩ = some (.slice (some ⟨g, 0, none⟩) d.home.length cc) ∧ wq.cell? ⟨q, 0, none⟩ = some (.int .i64 (d.me)) ∧ wq.cell? ⟨q, 1, none⟩ = some (.int .i64 (0)) ∧ wq.cell? ⟨q, 2, none⟩ = some (.int .i64 (no)) ∧ wq.cell? ⟨q, 3, none⟩ = some (.bool x3) ∧ wq.cell? ⟨q, 4, none⟩ = some (.int .i64 (0)) ∧ wq.cell? ⟨q, 5, none⟩ = some (.int .i64 (0)) ∧ wq.cell? ⟨q, 6, none⟩ = some (.int .i64 (0)) by
          subst hq
          obtain ⟨y0, y1, y2, y3, y4, y5, y6, -, -⟩ := SD.out.xs
          exact ⟨SD.out.N.cell 1, SD.out.R.at_.2, y0, y1, y2, y3, y4, y5, y6⟩)
        refine wpIn_wide.1 (wpIn_region_S (n := 0) (fun wq => wq = w4.drew) [8] (by kernel_rfl) rfl (fun hHeld => ?_))
        refine wpAnyS_pure 0 (v := ?_) (fun _ => trivial) (by simp only [List.getElem?_toArray, List.getElem?_cons_succ, List.getElem?_cons_zero]; rfl) (by kernel_rfl) (fun _ _ _ _ _ h => h) ⟨rfl, (by intro c h; cases h), ?_⟩ hHeld ?_
        rotate_left
        focus (intro wS hSw; (try replace hSw := HSF.out wS hSw); (try dsimp only at hSw); go_simp; (try with_reducible rfl))
        (try simp only [Act.put, List.setIfInBounds_toArray, List.set_cons_zero, List.set_cons_succ])
        refine wpAnyS_pure 1 (v := ?_) (fun _ => trivial) (by simp only [List.getElem?_toArray, List.getElem?_cons_succ, List.getElem?_cons_zero]; rfl) (by kernel_rfl) (fun _ _ _ _ _ h => h) ⟨rfl, (by intro c h; cases h), ?_⟩ hHeld ?_
        rotate_left
        focus (intro wS hSw; (try replace hSw := HSF.out wS hSw); (try dsimp only at hSw); go_simp; (try with_reducible rfl))
        (try simp only [Act.put, List.setIfInBounds_toArray, List.set_cons_zero, List.set_cons_succ])
        refine wpAnyS_pure 2 (v := ?_) (fun _ => trivial) (by simp only [List.getElem?_toArray, List.getElem?_cons_succ, List.getElem?_cons_zero]; rfl) (by kernel_rfl) (fun _ _ _ _ _ h => h) ⟨rfl, (by intro c h; cases h), ?_⟩ hHeld ?_
        rotate_left
        focus (intro wS hSw; (try replace hSw := HSF.out wS hSw); (try dsimp only at hSw); go_simp; (try with_reducible rfl))
        (try simp only [Act.put, List.setIfInBounds_toArray, List.set_cons_zero, List.set_cons_succ])
        refine wpAnyS_take 3 (v := ?_) (fun _ => trivial) (by simp only [List.getElem?_toArray, List.getElem?_cons_succ, List.getElem?_cons_zero]; rfl) (by kernel_rfl) (fun _ _ _ _ _ h => h) ⟨rfl, (by intro c h; cases h), ?_⟩ hHeld ?_
        rotate_left
        focus (intro wS hSw; (try replace hSw := HSF.out wS hSw); (try dsimp only at hSw); go_simp; (try with_reducible rfl))
        (try simp only [Act.put, List.setIfInBounds_toArray, List.set_cons_zero, List.set_cons_succ])
        refine wpAnyS_pure 4 (v := ?_) (fun _ => trivial) (by simp only [List.getElem?_toArray, List.getElem?_cons_succ, List.getElem?_cons_zero]; rfl) (by kernel_rfl) (fun _ _ _ _ _ h => h) ⟨rfl, (by intro c h; cases h), ?_⟩ hHeld ?_
        rotate_left
        focus (intro wS hSw; (try replace hSw := HSF.out wS hSw); (try dsimp only at hSw); go_simp; (try with_reducible rfl))
        (try simp only [Act.put, List.setIfInBounds_toArray, List.set_cons_zero, List.set_cons_succ])
        refine wpAnyS_take 5 (v := ?_) (fun _ => trivial) (by simp only [List.getElem?_toArray, List.getElem?_cons_succ, List.getElem?_cons_zero]; rfl) (by kernel_rfl) (fun _ _ _ _ _ h => h) ⟨rfl, (by intro c h; cases h), ?_⟩ hHeld ?_
        rotate_left
        focus (intro wS hSw; (try replace hSw := HSF.out wS hSw); (try dsimp only at hSw); go_simp; (try with_reducible rfl))
        (try simp only [Act.put, List.setIfInBounds_toArray, List.set_cons_zero, List.set_cons_succ])
        refine wpAnyS_take 6 (v := ?_) (fun _ => trivial) (by simp only [List.getElem?_toArray, List.getElem?_cons_succ, List.getElem?_cons_zero]; rfl) (by kernel_rfl) (fun _ _ _ _ _ h => h) ⟨rfl, (by intro c h; cases h), ?_⟩ hHeld ?_
        rotate_left
        focus (intro wS hSw; (try replace hSw := HSF.out wS hSw); (try dsimp only at hSw); go_simp; (try with_reducible rfl))
        (try simp only [Act.put, List.setIfInBounds_toArray, List.set_cons_zero, List.set_cons_succ])
        refine wpAnyS_pure 7 (v := ?_) (fun _ => trivial) (by simp only [List.getElem?_toArray, List.getElem?_cons_succ, List.getElem?_cons_zero]; rfl) (by kernel_rfl) (fun _ _ _ _ _ h => h) ⟨rfl, (by intro c h; cases h), ?_⟩ hHeld ?_
        rotate_left
        focus (intro wS hSw; (try replace hSw := HSF.out wS hSw); (try dsimp only at hSw); go_simp; (try with_reducible rfl))
        (try simp only [Act.put, List.setIfInBounds_toArray, List.set_cons_zero, List.set_cons_succ])
        generalize w4.drew = wd at *
        refine wpAnyS_ready [8] (by kernel_rfl) (by simp) (AllReadyS.consL (by simp only [List.getElem?_toArray, List.getElem?_cons_succ, List.getElem?_cons_zero]; rfl) rfl (by kernel_rfl) (fun K hK => ?_) AllReadyS.nil)
        refine storeZS (fun _ => trivial) (.tmp 79) (.tmp 78) rfl (z := (d.me, 0, no, x3, 0, 0, 0)) rfl rfl SD.out.R.r hkl.out ?_
        intro w9 o9 g9
        refine hK.out _ _ ?_
        (try simp only [Act.put, List.setIfInBounds_toArray, List.set_cons_zero, List.set_cons_succ])
        clear hK K hHeld HSF
        have R9 := hid (SD.out.R.put o9 g9 G3.out HZ.out HME.out)
        have N9 := hid (SD.out.N.grown g9 (fun e => own_blk_ne SD.out.R.r SD.out.N (by decide) (by rw [e]; rfl)))
        have X9 := hid (SD.out.X.grown g9 (fun e => SD.out.qg (by injection e with e; exact e.symm)))
        have GB := hid (gr_tr (gr_below SD.out.B (some g)) g9)
        clear o9 g9 SD
        refine wpAnyS_done (by kernel_rfl) ?_
        go_wp2_with fail
        go_ret
        exact ⟨rfl, R9.out, GB.out⟩
      · as_aux_lemma =>
        have e : hearF d (2, (k : Int), u, m) = (0, d) := by
          unfold hearF
          simp only
          rw [if_neg (by omega)]
          have hd : decide ((2 : Int) ≠ 1) = true := by decide
          rw [hd, hl]
          rw [if_pos rfl, if_neg (by decide), if_neg (by decide), if_neg hs]
        have HZ := hid (show zonesL d = (zonesL d).set k (d.home.getD k 0, (d.hs k).1, (d.hs k).2.1, (d.hs k).2.2, 0, 0, 0) by
          have h9 := zonesL_same hk
          rw [hzz] at h9
          exact h9)
        have HME := hid (show d.me = d.me from rfl)
        rw [show d.home.getD k 0 = d.me from hm] at HZ
        rw [e]
        clear hl e ok hp hhb
        go_enter Tryd.func26, Tryd.ntmps26
        go_upto_region 1 with fail
        have NZ := hid (Blk.new w 26 #[.int .i64 2, .int .i64 (k : Int), .int .i64 u, .int .i64 m])
        have B1 := hid (show Below w.heap.size w (w.alloc (Obj.cells #[.int .i64 2, .int .i64 (k : Int), .int .i64 u, .int .i64 m] 26)) by (repeat (first | exact Below.refl _ _ | assumption | refine below_drewN ?_ _ | refine Below.drew ?_ | refine Below.alloc ?_ (by (try simp); (try omega)) _ | refine Below.setCell ?_ (by (try simp); (try omega)) _)))
        generalize (w.alloc (Obj.cells #[.int .i64 2, .int .i64 (k : Int), .int .i64 u, .int .i64 m] 26)) = w1 at *
        obtain ⟨gn, hgn⟩ : ∃ gn, gn = w.heap.size := ⟨_, rfl⟩
        rw [← hgn] at NZ ⊢
        have HGN := hid (Nat.le_of_eq hgn.symm)
        clear hgn
        have R1 := hid (h.below B1.out)
        have a0 := NZ.out.cell 0; have a1 := NZ.out.cell 1; have a2 := NZ.out.cell 2; have a3 := NZ.out.cell 3
        simp at a0 a1 a2 a3
        have TH := hid (there_yes R1.out hz.1 hz.2)
        obtain ⟨d0, d1⟩ := R1.out.at_
        obtain ⟨g, rfl, g1, g2, g3, -, z0, z1, z2, z3, z4, z5, z6, fzz⟩ := R1.out.zone hk
        obtain ⟨zz, hzz⟩ : ∃ zz, zz = zoneOf d k := ⟨_, rfl⟩
        rw [← hzz] at z0 z1 z2 z3 z4 z5 z6
        have HZZ := hid hzz
        clear hzz
        obtain ⟨x0, x1, x2, x3, x4, x5, x6⟩ := zz
        simp only at z0 z1 z2 z3 z4 z5 z6
        have hq := HZZ.out
        rw [hzz] at hq
        simp only [Prod.mk.injEq] at hq
        obtain ⟨r0, rfl, rfl, rfl, rfl, rfl, rfl⟩ := hq
        have r0' : x0 = d.me := r0.trans hm
        clear r0 hzz hm hz h HZZ
        generalize (d.hs k).2.1 = no at *
        generalize (d.hs k).1 = en at *
        generalize (d.hs k).2.2 = x3 at *
        subst r0'
        have hsb : (m == no) = false := by simpa using hs
        go_wp2_with fail
        refine TH.out.mono ?_
        rintro e wa ⟨rfl, rfl⟩
        clear TH
        have G3 := hid g3
        have GLT := hid g1
        clear g1 g2 g3
        go_upto_region 3 with fail
        clear a0 a1 a2 a3 d0 d1
        have BD := hid ((Below.refl w1.heap.size w1).drew)
        have HSF := hid (fun (wq : World) (hq : Below w1.heap.size w1 wq) => show wq.cell? ⟨b, 1, none⟩ = some (.slice (some ⟨g, 0, none⟩) d.home.length cc) ∧ wq.cell? ⟨gn, 1, none⟩ = some (.int .i64 (k : Int)) ∧ wq.cell? ⟨g, k * 7, none⟩ = some (.int .i64 d.me) ∧ wq.cell? ⟨g, k * 7 + 1, none⟩ = some (.int .i64 en) ∧ wq.cell? ⟨g, k * 7 + 2, none⟩ = some (.int .i64 no) ∧ wq.cell? ⟨g, k * 7 + 3, none⟩ = some (.bool x3) ∧ wq.cell? ⟨g, k * 7 + 4, none⟩ = some (.int .i64 0) ∧ wq.cell? ⟨g, k * 7 + 5, none⟩ = some (.int .i64 0) ∧ wq.cell? ⟨g, k * 7 + 6, none⟩ = some (.int .i64 0) from
          ⟨(R1.out.below hq).at_.2, (NZ.out.below hq NZ.out.lt).cell 1, (bcell hq g _ GLT.out).trans z0, (bcell hq g _ GLT.out).trans z1, (bcell hq g _ GLT.out).trans z2, (bcell hq g _ GLT.out).trans z3, (bcell hq g _ GLT.out).trans z4, (bcell hq g _ GLT.out).trans z5, (bcell hq g _ GLT.out).trans z6⟩)
        clear z0 z1 z2 z3 z4 z5 z6 fzz
        refine wpIn_wide.1 (wpIn_region_S (n := 0) (fun wq => Below w1.heap.size w1 wq) [9] (by kernel_rfl) BD.out (fun hHeld => ?_))
        generalize w1.drew = wd at *
        refine wpAnyS_pure 0 (v := ?_) (fun _ => trivial) (by simp only [List.getElem?_toArray, List.getElem?_cons_succ, List.getElem?_cons_zero]; rfl) (by kernel_rfl) (fun _ _ _ _ _ h => h) ⟨rfl, (by intro c h; cases h), ?_⟩ hHeld ?_
        rotate_left
        focus (intro wS hSw; (try replace hSw := HSF.out wS hSw); (try dsimp only at hSw); go_simp; (try with_reducible rfl))
        (try simp only [Act.put, List.setIfInBounds_toArray, List.set_cons_zero, List.set_cons_succ])
        refine wpAnyS_pure 1 (v := ?_) (fun _ => trivial) (by simp only [List.getElem?_toArray, List.getElem?_cons_succ, List.getElem?_cons_zero]; rfl) (by kernel_rfl) (fun _ _ _ _ _ h => h) ⟨rfl, (by intro c h; cases h), ?_⟩ hHeld ?_
        rotate_left
        focus (intro wS hSw; (try replace hSw := HSF.out wS hSw); (try dsimp only at hSw); go_simp; (try with_reducible rfl))
        (try simp only [Act.put, List.setIfInBounds_toArray, List.set_cons_zero, List.set_cons_succ])
        refine wpAnyS_pure 2 (v := ?_) (fun _ => trivial) (by simp only [List.getElem?_toArray, List.getElem?_cons_succ, List.getElem?_cons_zero]; rfl) (by kernel_rfl) (fun _ _ _ _ _ h => h) ⟨rfl, (by intro c h; cases h), ?_⟩ hHeld ?_
        rotate_left
        focus (intro wS hSw; (try replace hSw := HSF.out wS hSw); (try dsimp only at hSw); go_simp; (try with_reducible rfl))
        (try simp only [Act.put, List.setIfInBounds_toArray, List.set_cons_zero, List.set_cons_succ])
        refine wpAnyS_take 3 (v := ?_) (fun _ => trivial) (by simp only [List.getElem?_toArray, List.getElem?_cons_succ, List.getElem?_cons_zero]; rfl) (by kernel_rfl) (fun _ _ _ _ _ h => h) ⟨rfl, (by intro c h; cases h), ?_⟩ hHeld ?_
        rotate_left
        focus (intro wS hSw; (try replace hSw := HSF.out wS hSw); (try dsimp only at hSw); go_simp; (try with_reducible rfl))
        (try simp only [Act.put, List.setIfInBounds_toArray, List.set_cons_zero, List.set_cons_succ])
        refine wpAnyS_pure 4 (v := ?_) (fun _ => trivial) (by simp only [List.getElem?_toArray, List.getElem?_cons_succ, List.getElem?_cons_zero]; rfl) (by kernel_rfl) (fun _ _ _ _ _ h => h) ⟨rfl, (by intro c h; cases h), ?_⟩ hHeld ?_
        rotate_left
        focus (intro wS hSw; (try replace hSw := HSF.out wS hSw); (try dsimp only at hSw); go_simp; (try with_reducible rfl))
        (try simp only [Act.put, List.setIfInBounds_toArray, List.set_cons_zero, List.set_cons_succ])
        refine wpAnyS_take 5 (v := ?_) (fun _ => trivial) (by simp only [List.getElem?_toArray, List.getElem?_cons_succ, List.getElem?_cons_zero]; rfl) (by kernel_rfl) (fun _ _ _ _ _ h => h) ⟨rfl, (by intro c h; cases h), ?_⟩ hHeld ?_
        rotate_left
        focus (intro wS hSw; (try replace hSw := HSF.out wS hSw); (try dsimp only at hSw); go_simp; (try with_reducible rfl))
        (try simp only [Act.put, List.setIfInBounds_toArray, List.set_cons_zero, List.set_cons_succ])
        refine wpAnyS_pure 6 (v := ?_) (fun _ => trivial) (by simp only [List.getElem?_toArray, List.getElem?_cons_succ, List.getElem?_cons_zero]; rfl) (by kernel_rfl) (fun _ _ _ _ _ h => h) ⟨rfl, (by intro c h; cases h), ?_⟩ hHeld ?_
        rotate_left
        focus (intro wS hSw; (try replace hSw := HSF.out wS hSw); (try dsimp only at hSw); go_simp; (try with_reducible rfl))
        (try simp only [Act.put, List.setIfInBounds_toArray, List.set_cons_zero, List.set_cons_succ])
        refine wpAnyS_take 7 (v := ?_) (fun _ => trivial) (by simp only [List.getElem?_toArray, List.getElem?_cons_succ, List.getElem?_cons_zero]; rfl) (by kernel_rfl) (fun _ _ _ _ _ h => h) ⟨rfl, (by intro c h; cases h), ?_⟩ hHeld ?_
        rotate_left
        focus (intro wS hSw; (try replace hSw := HSF.out wS hSw); (try dsimp only at hSw); go_simp; (try with_reducible rfl))
        (try simp only [Act.put, List.setIfInBounds_toArray, List.set_cons_zero, List.set_cons_succ])
        refine wpAnyS_ready [8] (by kernel_rfl) (by simp) (AllReadyS.cons (by simp only [List.getElem?_toArray, List.getElem?_cons_succ, List.getElem?_cons_zero]; rfl) rfl (fun K hK => ?_) AllReadyS.nil)
        refine allocZS (fun _ => trivial) rfl ?_
        refine hK.out _ _ (BD.out.alloc BD.out.size _) ?_
        clear hK K hHeld
        (try simp only [Act.put, List.setIfInBounds_toArray, List.set_cons_zero, List.set_cons_succ])
        refine wpAnyS_ready [9] (by kernel_rfl) (by simp) (AllReadyS.consL (by simp only [List.getElem?_toArray, List.getElem?_cons_succ, List.getElem?_cons_zero]; rfl) rfl (by kernel_rfl) (fun K hK => ?_) AllReadyS.nil)
        refine storeNZ (fun _ => trivial) (.tmp 5) (.tmp 28) rfl (z := (d.me, en, no, x3, 0, 0, 0)) rfl rfl ?_
        refine hK.out _ _ ?_
        clear hK K HSF
        (try simp only [Act.put, List.setIfInBounds_toArray, List.set_cons_zero, List.set_cons_succ])
        have ba := hid (BD.out.alloc BD.out.size (Obj.cells (znRK.cs (d.me, en, no, x3, 0, 0, 0)).toArray 90))
        have S1 := hid (show GH w (wd.alloc (Obj.cells (znRK.cs (d.me, en, no, x3, 0, 0, 0)).toArray 90)) base b g d.home.length cc gn wd.heap.size d #[.int .i64 2, .int .i64 (k : Int), .int .i64 u, .int .i64 m] (d.me, en, no, x3, 0, 0, 0) from
          ⟨R1.out.below ba.out, NZ.out.below ba.out NZ.out.lt, Blk.new wd _ _, B1.out.trans (ba.out.mono B1.out.size), by have := GLT.out; have := BD.out.size; omega, HGN.out, Nat.le_trans B1.out.size BD.out.size⟩)
        clear NZ R1 B1 ba GLT BD
        generalize (wd.alloc (Obj.cells (znRK.cs (d.me, en, no, x3, 0, 0, 0)).toArray 90)) = w2 at *
        generalize wd.heap.size = q at *
        refine wpAnyS_done (by kernel_rfl) ?_
        go_upto_region 4 with fail
        have S2 := hid (S1.out.below (show Below w2.heap.size w2 w2.drew by (repeat (first | exact Below.refl _ _ | assumption | refine below_drewN ?_ _ | refine Below.drew ?_ | refine Below.alloc ?_ (by (try simp); (try omega)) _ | refine Below.setCell ?_ (by (try simp); (try omega)) _))))
        clear S1
        have HSF := hid (fun (wq : World) (hq : wq.cell? ⟨b, 0, none⟩ = some (.int .i64 d.me) ∧ wq.cell? ⟨q, 0, none⟩ = some (.int .i64 d.me) ∧ wq.cell? ⟨gn, 0, none⟩ = some (.int .i64 2)) => hq)
        refine wpIn_wide.1 (wpIn_region_S (n := 0) (fun wq => wq.cell? ⟨b, 0, none⟩ = some (.int .i64 d.me) ∧ wq.cell? ⟨q, 0, none⟩ = some (.int .i64 d.me) ∧ wq.cell? ⟨gn, 0, none⟩ = some (.int .i64 2)) [] (by kernel_rfl) ⟨S2.out.R.at_.1, S2.out.xs.1, S2.out.N.cell 0⟩ (fun hHeld => ?_))
        generalize w2.drew = w3 at *
        refine wpAnyS_pure 0 (v := ?_) (fun _ => trivial) (by simp only [List.getElem?_toArray, List.getElem?_cons_succ, List.getElem?_cons_zero]; rfl) (by kernel_rfl) (fun _ _ _ _ _ h => h) ⟨rfl, (by intro c h; cases h), ?_⟩ hHeld ?_
        rotate_left
        focus (intro wS hSw; (try replace hSw := HSF.out wS hSw); (try dsimp only at hSw); go_simp; (try with_reducible rfl))
        (try simp only [Act.put, List.setIfInBounds_toArray, List.set_cons_zero, List.set_cons_succ])
        refine wpAnyS_take 1 (v := ?_) (fun _ => trivial) (by simp only [List.getElem?_toArray, List.getElem?_cons_succ, List.getElem?_cons_zero]; rfl) (by kernel_rfl) (fun _ _ _ _ _ h => h) ⟨rfl, (by intro c h; cases h), ?_⟩ hHeld ?_
        rotate_left
        focus (intro wS hSw; (try replace hSw := HSF.out wS hSw); (try dsimp only at hSw); go_simp; (try with_reducible rfl))
        (try simp only [Act.put, List.setIfInBounds_toArray, List.set_cons_zero, List.set_cons_succ])
        refine wpAnyS_pure 2 (v := ?_) (fun _ => trivial) (by simp only [List.getElem?_toArray, List.getElem?_cons_succ, List.getElem?_cons_zero]; rfl) (by kernel_rfl) (fun _ _ _ _ _ h => h) ⟨rfl, (by intro c h; cases h), ?_⟩ hHeld ?_
        rotate_left
        focus (intro wS hSw; (try replace hSw := HSF.out wS hSw); (try dsimp only at hSw); go_simp; (try with_reducible rfl))
        (try simp only [Act.put, List.setIfInBounds_toArray, List.set_cons_zero, List.set_cons_succ])
        refine wpAnyS_pure 3 (v := ?_) (fun _ => trivial) (by simp only [List.getElem?_toArray, List.getElem?_cons_succ, List.getElem?_cons_zero]; rfl) (by kernel_rfl) (fun _ _ _ _ _ h => h) ⟨rfl, (by intro c h; cases h), ?_⟩ hHeld ?_
        rotate_left
        focus (intro wS hSw; (try replace hSw := HSF.out wS hSw); (try dsimp only at hSw); go_simp; (try with_reducible rfl))
        (try simp only [Act.put, List.setIfInBounds_toArray, List.set_cons_zero, List.set_cons_succ])
        refine wpAnyS_pure 4 (v := ?_) (fun _ => trivial) (by simp only [List.getElem?_toArray, List.getElem?_cons_succ, List.getElem?_cons_zero]; rfl) (by kernel_rfl) (fun _ _ _ _ _ h => h) ⟨rfl, (by intro c h; cases h), ?_⟩ hHeld ?_
        rotate_left
        focus (intro wS hSw; (try replace hSw := HSF.out wS hSw); (try dsimp only at hSw); go_simp; (try with_reducible rfl))
        (try simp only [Act.put, List.setIfInBounds_toArray, List.set_cons_zero, List.set_cons_succ])
        refine wpAnyS_take 5 (v := ?_) (fun _ => trivial) (by simp only [List.getElem?_toArray, List.getElem?_cons_succ, List.getElem?_cons_zero]; rfl) (by kernel_rfl) (fun _ _ _ _ _ h => h) ⟨rfl, (by intro c h; cases h), ?_⟩ hHeld ?_
        rotate_left
        focus (intro wS hSw; (try replace hSw := HSF.out wS hSw); (try dsimp only at hSw); go_simp; (try with_reducible rfl))
        (try simp only [Act.put, List.setIfInBounds_toArray, List.set_cons_zero, List.set_cons_succ])
        refine wpAnyS_pure 6 (v := ?_) (fun _ => trivial) (by simp only [List.getElem?_toArray, List.getElem?_cons_succ, List.getElem?_cons_zero]; rfl) (by kernel_rfl) (fun _ _ _ _ _ h => h) ⟨rfl, (by intro c h; cases h), ?_⟩ hHeld ?_
        rotate_left
        focus (intro wS hSw; (try replace hSw := HSF.out wS hSw); (try dsimp only at hSw); go_simp; (try with_reducible rfl))
        (try simp only [Act.put, List.setIfInBounds_toArray, List.set_cons_zero, List.set_cons_succ])
        refine wpAnyS_pure 7 (v := ?_) (fun _ => trivial) (by simp only [List.getElem?_toArray, List.getElem?_cons_succ, List.getElem?_cons_zero]; rfl) (by kernel_rfl) (fun _ _ _ _ _ h => h) ⟨rfl, (by intro c h; cases h), ?_⟩ hHeld ?_
        rotate_left
        focus (intro wS hSw; (try replace hSw := HSF.out wS hSw); (try dsimp only at hSw); go_simp; (try with_reducible rfl))
        (try simp only [Act.put, List.setIfInBounds_toArray, List.set_cons_zero, List.set_cons_succ])
        refine wpAnyS_take 8 (v := ?_) (fun _ => trivial) (by simp only [List.getElem?_toArray, List.getElem?_cons_succ, List.getElem?_cons_zero]; rfl) (by kernel_rfl) (fun _ _ _ _ _ h => h) ⟨rfl, (by intro c h; cases h), ?_⟩ hHeld ?_
        rotate_left
        focus (intro wS hSw; (try replace hSw := HSF.out wS hSw); (try dsimp only at hSw); go_simp; (try with_reducible rfl))
        (try simp only [Act.put, List.setIfInBounds_toArray, List.set_cons_zero, List.set_cons_succ])
        refine wpAnyS_pure 9 (v := ?_) (fun _ => trivial) (by simp only [List.getElem?_toArray, List.getElem?_cons_succ, List.getElem?_cons_zero]; rfl) (by kernel_rfl) (fun _ _ _ _ _ h => h) ⟨rfl, (by intro c h; cases h), ?_⟩ hHeld ?_
        rotate_left
        focus (intro wS hSw; (try replace hSw := HSF.out wS hSw); (try dsimp only at hSw); go_simp; (try with_reducible rfl))
        (try simp only [Act.put, List.setIfInBounds_toArray, List.set_cons_zero, List.set_cons_succ])
        refine wpAnyS_pure 10 (v := ?_) (fun _ => trivial) (by simp only [List.getElem?_toArray, List.getElem?_cons_succ, List.getElem?_cons_zero]; rfl) (by kernel_rfl) (fun _ _ _ _ _ h => h) ⟨rfl, (by intro c h; cases h), ?_⟩ hHeld ?_
        rotate_left
        focus (intro wS hSw; (try replace hSw := HSF.out wS hSw); (try dsimp only at hSw); go_simp; (try with_reducible rfl))
        (try simp only [Act.put, List.setIfInBounds_toArray, List.set_cons_zero, List.set_cons_succ])
        refine wpAnyS_done (by kernel_rfl) ?_
        clear hHeld HSF
        obtain ⟨y0, y1, y2, y3, y4, y5, y6, fzq, ltq⟩ := S2.out.xs
        have a0 := S2.out.N.cell 0; have a1 := S2.out.N.cell 1; have a2 := S2.out.N.cell 2; have a3 := S2.out.N.cell 3
        simp at a0 a1 a2 a3
        go_upto_region 16 with fail
        have S3 := S2
        clear y0 y1 y2 y3 y4 y5 y6 fzq ltq S2 a0 a1 a2 a3
        have SD := hid (S3.out.below (show Below w3.heap.size w3 w3.drew by (repeat (first | exact Below.refl _ _ | assumption | refine below_drewN ?_ _ | refine Below.drew ?_ | refine Below.alloc ?_ (by (try simp); (try omega)) _ | refine Below.setCell ?_ (by (try simp); (try omega)) _))))
        clear S3
        have hkl := hid (show k < (zonesL d).length by rw [zonesL_len]; exact hk)
        have HSF := hid (fun (wq : World) (hq : wq = w3.drew) => show wq.cell? ⟨gn, 1, none⟩ = some (.int .i64 (k : Int)) ∧ wq.cell? ⟨b, 1, none⟩ = some (.slice (some ⟨g, 0, none⟩) d.home.length cc) ∧ wq.cell? ⟨q, 0, none⟩ = some (.int .i64 (d.me)) ∧ wq.cell? ⟨q, 1, none⟩ = some (.int .i64 (en)) ∧ wq.cell? ⟨q, 2, none⟩ = some (.int .i64 (no)) ∧ wq.cell? ⟨q, 3, none⟩ = some (.bool x3) ∧ wq.cell? ⟨q, 4, none⟩ = some (.int .i64 (0)) ∧ wq.cell? ⟨q, 5, none⟩ = some (.int .i64 (0)) ∧ wq.cell? ⟨q, 6, none⟩ = some (.int .i64 (0)) by
          subst hq
          obtain ⟨y0, y1, y2, y3, y4, y5, y6, -, -⟩ := SD.out.xs
          exact ⟨SD.out.N.cell 1, SD.out.R.at_.2, y0, y1, y2, y3, y4, y5, y6⟩)
        refine wpIn_wide.1 (wpIn_region_S (n := 0) (fun wq => wq = w3.drew) [8] (by kernel_rfl) rfl (fun hHeld => ?_))
        refine wpAnyS_pure 0 (v := ?_) (fun _ => trivial) (by simp only [List.getElem?_toArray, List.getElem?_cons_succ, List.getElem?_cons_zero]; rfl) (by kernel_rfl) (fun _ _ _ _ _ h => h) ⟨rfl, (by intro c h; cases h), ?_⟩ hHeld ?_
        rotate_left
        focus (intro wS hSw; (try replace hSw := HSF.out wS hSw); (try dsimp only at hSw); go_simp; (try with_reducible rfl))
        (try simp only [Act.put, List.setIfInBounds_toArray, List.set_cons_zero, List.set_cons_succ])
        refine wpAnyS_pure 1 (v := ?_) (fun _ => trivial) (by simp only [List.getElem?_toArray, List.getElem?_cons_succ, List.getElem?_cons_zero]; rfl) (by kernel_rfl) (fun _ _ _ _ _ h => h) ⟨rfl, (by intro c h; cases h), ?_⟩ hHeld ?_
        rotate_left
        focus (intro wS hSw; (try replace hSw := HSF.out wS hSw); (try dsimp only at hSw); go_simp; (try with_reducible rfl))
        (try simp only [Act.put, List.setIfInBounds_toArray, List.set_cons_zero, List.set_cons_succ])
        refine wpAnyS_pure 2 (v := ?_) (fun _ => trivial) (by simp only [List.getElem?_toArray, List.getElem?_cons_succ, List.getElem?_cons_zero]; rfl) (by kernel_rfl) (fun _ _ _ _ _ h => h) ⟨rfl, (by intro c h; cases h), ?_⟩ hHeld ?_
        rotate_left
        focus (intro wS hSw; (try replace hSw := HSF.out wS hSw); (try dsimp only at hSw); go_simp; (try with_reducible rfl))
        (try simp only [Act.put, List.setIfInBounds_toArray, List.set_cons_zero, List.set_cons_succ])
        refine wpAnyS_take 3 (v := ?_) (fun _ => trivial) (by simp only [List.getElem?_toArray, List.getElem?_cons_succ, List.getElem?_cons_zero]; rfl) (by kernel_rfl) (fun _ _ _ _ _ h => h) ⟨rfl, (by intro c h; cases h), ?_⟩ hHeld ?_
        rotate_left
        focus (intro wS hSw; (try replace hSw := HSF.out wS hSw); (try dsimp only at hSw); go_simp; (try with_reducible rfl))
        (try simp only [Act.put, List.setIfInBounds_toArray, List.set_cons_zero, List.set_cons_succ])
        refine wpAnyS_pure 4 (v := ?_) (fun _ => trivial) (by simp only [List.getElem?_toArray, List.getElem?_cons_succ, List.getElem?_cons_zero]; rfl) (by kernel_rfl) (fun _ _ _ _ _ h => h) ⟨rfl, (by intro c h; cases h), ?_⟩ hHeld ?_
        rotate_left
        focus (intro wS hSw; (try replace hSw := HSF.out wS hSw); (try dsimp only at hSw); go_simp; (try with_reducible rfl))
        (try simp only [Act.put, List.setIfInBounds_toArray, List.set_cons_zero, List.set_cons_succ])
        refine wpAnyS_take 5 (v := ?_) (fun _ => trivial) (by simp only [List.getElem?_toArray, List.getElem?_cons_succ, List.getElem?_cons_zero]; rfl) (by kernel_rfl) (fun _ _ _ _ _ h => h) ⟨rfl, (by intro c h; cases h), ?_⟩ hHeld ?_
        rotate_left
        focus (intro wS hSw; (try replace hSw := HSF.out wS hSw); (try dsimp only at hSw); go_simp; (try with_reducible rfl))
        (try simp only [Act.put, List.setIfInBounds_toArray, List.set_cons_zero, List.set_cons_succ])
        refine wpAnyS_take 6 (v := ?_) (fun _ => trivial) (by simp only [List.getElem?_toArray, List.getElem?_cons_succ, List.getElem?_cons_zero]; rfl) (by kernel_rfl) (fun _ _ _ _ _ h => h) ⟨rfl, (by intro c h; cases h), ?_⟩ hHeld ?_
        rotate_left
        focus (intro wS hSw; (try replace hSw := HSF.out wS hSw); (try dsimp only at hSw); go_simp; (try with_reducible rfl))
        (try simp only [Act.put, List.setIfInBounds_toArray, List.set_cons_zero, List.set_cons_succ])
        refine wpAnyS_pure 7 (v := ?_) (fun _ => trivial) (by simp only [List.getElem?_toArray, List.getElem?_cons_succ, List.getElem?_cons_zero]; rfl) (by kernel_rfl) (fun _ _ _ _ _ h => h) ⟨rfl, (by intro c h; cases h), ?_⟩ hHeld ?_
        rotate_left
        focus (intro wS hSw; (try replace hSw := HSF.out wS hSw); (try dsimp only at hSw); go_simp; (try with_reducible rfl))
        (try simp only [Act.put, List.setIfInBounds_toArray, List.set_cons_zero, List.set_cons_succ])
        generalize w3.drew = wd at *
        refine wpAnyS_ready [8] (by kernel_rfl) (by simp) (AllReadyS.consL (by simp only [List.getElem?_toArray, List.getElem?_cons_succ, List.getElem?_cons_zero]; rfl) rfl (by kernel_rfl) (fun K hK => ?_) AllReadyS.nil)
        refine storeZS (fun _ => trivial) (.tmp 79) (.tmp 78) rfl (z := (d.me, en, no, x3, 0, 0, 0)) rfl rfl SD.out.R.r hkl.out ?_
        intro w9 o9 g9
        refine hK.out _ _ ?_
        (try simp only [Act.put, List.setIfInBounds_toArray, List.set_cons_zero, List.set_cons_succ])
        clear hK K hHeld HSF
        have R9 := hid (SD.out.R.put o9 g9 G3.out HZ.out rfl)
        have N9 := hid (SD.out.N.grown g9 (fun e => own_blk_ne SD.out.R.r SD.out.N (by decide) (by rw [e]; rfl)))
        have X9 := hid (SD.out.X.grown g9 (fun e => SD.out.qg (by injection e with e; exact e.symm)))
        have GB := hid (gr_tr (gr_below SD.out.B (some g)) g9)
        clear o9 g9 SD
        refine wpAnyS_done (by kernel_rfl) ?_
        go_wp2_with fail
        go_ret
        exact ⟨rfl, R9.out, GB.out⟩
    · as_aux_lemma =>
      have hl : lAs d (k : Int) true = 7 := by
        unfold lAs
        rw [if_neg (by omega)]
        have hm' : ¬ d.home.getD (k : Int).toNat 0 = d.me := hm
        simp only [decide_eq_false hm', ne_eq] <;> rfl
      have hp : d.hp k = false := by
        cases hq : d.hp k with
        | false => rfl
        | true => exact absurd ((home_hp hk).2 hq) hm
      have hzz := zoneOf_g ok hp
      have e : hearF d (2, (k : Int), u, m) = (7, d) := by
        unfold hearF
        simp only
        rw [if_neg (by omega)]
        have hd : decide ((2 : Int) ≠ 1) = true := by decide
        rw [hd, hl]
        rfl
      rw [e]
      clear hl e ok hp
      go_enter Tryd.func26, Tryd.ntmps26
      go_upto_region 1 with fail
      have NZ := hid (Blk.new w 26 #[.int .i64 2, .int .i64 (k : Int), .int .i64 u, .int .i64 m])
      have B1 := hid (show Below w.heap.size w (w.alloc (Obj.cells #[.int .i64 2, .int .i64 (k : Int), .int .i64 u, .int .i64 m] 26)) by (repeat (first | exact Below.refl _ _ | assumption | refine below_drewN ?_ _ | refine Below.drew ?_ | refine Below.alloc ?_ (by (try simp); (try omega)) _ | refine Below.setCell ?_ (by (try simp); (try omega)) _)))
      generalize (w.alloc (Obj.cells #[.int .i64 2, .int .i64 (k : Int), .int .i64 u, .int .i64 m] 26)) = w1 at *
      obtain ⟨gn, hgn⟩ : ∃ gn, gn = w.heap.size := ⟨_, rfl⟩
      rw [← hgn] at NZ ⊢
      have HGN := hid (Nat.le_of_eq hgn.symm)
      clear hgn
      have R1 := hid (h.below B1.out)
      have a0 := NZ.out.cell 0; have a1 := NZ.out.cell 1; have a2 := NZ.out.cell 2; have a3 := NZ.out.cell 3
      simp at a0 a1 a2 a3
      have TH := hid (there_yes R1.out hz.1 hz.2)
      obtain ⟨d0, d1⟩ := R1.out.at_
      obtain ⟨g, rfl, g1, g2, g3, -, z0, z1, z2, z3, z4, z5, z6, fzz⟩ := R1.out.zone hk
      obtain ⟨zz, hzz⟩ : ∃ zz, zz = zoneOf d k := ⟨_, rfl⟩
      rw [← hzz] at z0 z1 z2 z3 z4 z5 z6
      have HZZ := hid hzz
      clear hzz
      obtain ⟨x0, x1, x2, x3, x4, x5, x6⟩ := zz
      simp only at z0 z1 z2 z3 z4 z5 z6
      have hq := HZZ.out
      rw [hzz] at hq
      simp only [Prod.mk.injEq] at hq
      obtain ⟨r0, rfl, rfl, rfl, rfl, rfl, rfl⟩ := hq
      have hx0 : x0 ≠ d.me := by rw [r0]; exact hm
      have hxb : (x0 == d.me) = false := by simpa using hx0
      have hr0 := hid r0
      clear r0 hzz hm hz h HZZ
      generalize (d.gs k).1 = en at *
      generalize (d.gs k).2.1 = he at *
      generalize (d.gs k).2.2.1 = gno at *
      generalize (d.gs k).2.2.2 = asv at *
      go_wp2_with fail
      refine TH.out.mono ?_
      rintro e wa ⟨rfl, rfl⟩
      clear TH
      have G3 := hid g3
      have GLT := hid g1
      clear g1 g2 g3
      go_upto_region 3 with fail
      clear a0 a1 a2 a3 d0 d1
      have BD := hid ((Below.refl w1.heap.size w1).drew)
      have HSF := hid (fun (wq : World) (hq : Below w1.heap.size w1 wq) => show wq.cell? ⟨b, 1, none⟩ = some (.slice (some ⟨g, 0, none⟩) d.home.length cc) ∧ wq.cell? ⟨gn, 1, none⟩ = some (.int .i64 (k : Int)) ∧ wq.cell? ⟨g, k * 7, none⟩ = some (.int .i64 x0) ∧ wq.cell? ⟨g, k * 7 + 1, none⟩ = some (.int .i64 en) ∧ wq.cell? ⟨g, k * 7 + 2, none⟩ = some (.int .i64 0) ∧ wq.cell? ⟨g, k * 7 + 3, none⟩ = some (.bool false) ∧ wq.cell? ⟨g, k * 7 + 4, none⟩ = some (.int .i64 he) ∧ wq.cell? ⟨g, k * 7 + 5, none⟩ = some (.int .i64 gno) ∧ wq.cell? ⟨g, k * 7 + 6, none⟩ = some (.int .i64 asv) from
        ⟨(R1.out.below hq).at_.2, (NZ.out.below hq NZ.out.lt).cell 1, (bcell hq g _ GLT.out).trans z0, (bcell hq g _ GLT.out).trans z1, (bcell hq g _ GLT.out).trans z2, (bcell hq g _ GLT.out).trans z3, (bcell hq g _ GLT.out).trans z4, (bcell hq g _ GLT.out).trans z5, (bcell hq g _ GLT.out).trans z6⟩)
      clear z0 z1 z2 z3 z4 z5 z6 fzz
      refine wpIn_wide.1 (wpIn_region_S (n := 0) (fun wq => Below w1.heap.size w1 wq) [9] (by kernel_rfl) BD.out (fun hHeld => ?_))
      generalize w1.drew = wd at *
      refine wpAnyS_pure 0 (v := ?_) (fun _ => trivial) (by simp only [List.getElem?_toArray, List.getElem?_cons_succ, List.getElem?_cons_zero]; rfl) (by kernel_rfl) (fun _ _ _ _ _ h => h) ⟨rfl, (by intro c h; cases h), ?_⟩ hHeld ?_
      rotate_left
      focus (intro wS hSw; (try replace hSw := HSF.out wS hSw); (try dsimp only at hSw); go_simp; (try with_reducible rfl))
      (try simp only [Act.put, List.setIfInBounds_toArray, List.set_cons_zero, List.set_cons_succ])
      refine wpAnyS_pure 1 (v := ?_) (fun _ => trivial) (by simp only [List.getElem?_toArray, List.getElem?_cons_succ, List.getElem?_cons_zero]; rfl) (by kernel_rfl) (fun _ _ _ _ _ h => h) ⟨rfl, (by intro c h; cases h), ?_⟩ hHeld ?_
      rotate_left
      focus (intro wS hSw; (try replace hSw := HSF.out wS hSw); (try dsimp only at hSw); go_simp; (try with_reducible rfl))
      (try simp only [Act.put, List.setIfInBounds_toArray, List.set_cons_zero, List.set_cons_succ])
      refine wpAnyS_pure 2 (v := ?_) (fun _ => trivial) (by simp only [List.getElem?_toArray, List.getElem?_cons_succ, List.getElem?_cons_zero]; rfl) (by kernel_rfl) (fun _ _ _ _ _ h => h) ⟨rfl, (by intro c h; cases h), ?_⟩ hHeld ?_
      rotate_left
      focus (intro wS hSw; (try replace hSw := HSF.out wS hSw); (try dsimp only at hSw); go_simp; (try with_reducible rfl))
      (try simp only [Act.put, List.setIfInBounds_toArray, List.set_cons_zero, List.set_cons_succ])
      refine wpAnyS_take 3 (v := ?_) (fun _ => trivial) (by simp only [List.getElem?_toArray, List.getElem?_cons_succ, List.getElem?_cons_zero]; rfl) (by kernel_rfl) (fun _ _ _ _ _ h => h) ⟨rfl, (by intro c h; cases h), ?_⟩ hHeld ?_
      rotate_left
      focus (intro wS hSw; (try replace hSw := HSF.out wS hSw); (try dsimp only at hSw); go_simp; (try with_reducible rfl))
      (try simp only [Act.put, List.setIfInBounds_toArray, List.set_cons_zero, List.set_cons_succ])
      refine wpAnyS_pure 4 (v := ?_) (fun _ => trivial) (by simp only [List.getElem?_toArray, List.getElem?_cons_succ, List.getElem?_cons_zero]; rfl) (by kernel_rfl) (fun _ _ _ _ _ h => h) ⟨rfl, (by intro c h; cases h), ?_⟩ hHeld ?_
      rotate_left
      focus (intro wS hSw; (try replace hSw := HSF.out wS hSw); (try dsimp only at hSw); go_simp; (try with_reducible rfl))
      (try simp only [Act.put, List.setIfInBounds_toArray, List.set_cons_zero, List.set_cons_succ])
      refine wpAnyS_take 5 (v := ?_) (fun _ => trivial) (by simp only [List.getElem?_toArray, List.getElem?_cons_succ, List.getElem?_cons_zero]; rfl) (by kernel_rfl) (fun _ _ _ _ _ h => h) ⟨rfl, (by intro c h; cases h), ?_⟩ hHeld ?_
      rotate_left
      focus (intro wS hSw; (try replace hSw := HSF.out wS hSw); (try dsimp only at hSw); go_simp; (try with_reducible rfl))
      (try simp only [Act.put, List.setIfInBounds_toArray, List.set_cons_zero, List.set_cons_succ])
      refine wpAnyS_pure 6 (v := ?_) (fun _ => trivial) (by simp only [List.getElem?_toArray, List.getElem?_cons_succ, List.getElem?_cons_zero]; rfl) (by kernel_rfl) (fun _ _ _ _ _ h => h) ⟨rfl, (by intro c h; cases h), ?_⟩ hHeld ?_
      rotate_left
      focus (intro wS hSw; (try replace hSw := HSF.out wS hSw); (try dsimp only at hSw); go_simp; (try with_reducible rfl))
      (try simp only [Act.put, List.setIfInBounds_toArray, List.set_cons_zero, List.set_cons_succ])
      refine wpAnyS_take 7 (v := ?_) (fun _ => trivial) (by simp only [List.getElem?_toArray, List.getElem?_cons_succ, List.getElem?_cons_zero]; rfl) (by kernel_rfl) (fun _ _ _ _ _ h => h) ⟨rfl, (by intro c h; cases h), ?_⟩ hHeld ?_
      rotate_left
      focus (intro wS hSw; (try replace hSw := HSF.out wS hSw); (try dsimp only at hSw); go_simp; (try with_reducible rfl))
      (try simp only [Act.put, List.setIfInBounds_toArray, List.set_cons_zero, List.set_cons_succ])
      refine wpAnyS_ready [8] (by kernel_rfl) (by simp) (AllReadyS.cons (by simp only [List.getElem?_toArray, List.getElem?_cons_succ, List.getElem?_cons_zero]; rfl) rfl (fun K hK => ?_) AllReadyS.nil)
      refine allocZS (fun _ => trivial) rfl ?_
      refine hK.out _ _ (BD.out.alloc BD.out.size _) ?_
      clear hK K hHeld
      (try simp only [Act.put, List.setIfInBounds_toArray, List.set_cons_zero, List.set_cons_succ])
      refine wpAnyS_ready [9] (by kernel_rfl) (by simp) (AllReadyS.consL (by simp only [List.getElem?_toArray, List.getElem?_cons_succ, List.getElem?_cons_zero]; rfl) rfl (by kernel_rfl) (fun K hK => ?_) AllReadyS.nil)
      refine storeNZ (fun _ => trivial) (.tmp 5) (.tmp 28) rfl (z := (x0, en, 0, false, he, gno, asv)) rfl rfl ?_
      refine hK.out _ _ ?_
      clear hK K HSF
      (try simp only [Act.put, List.setIfInBounds_toArray, List.set_cons_zero, List.set_cons_succ])
      have ba := hid (BD.out.alloc BD.out.size (Obj.cells (znRK.cs (x0, en, 0, false, he, gno, asv)).toArray 90))
      have S1 := hid (show GH w (wd.alloc (Obj.cells (znRK.cs (x0, en, 0, false, he, gno, asv)).toArray 90)) base b g d.home.length cc gn wd.heap.size d #[.int .i64 2, .int .i64 (k : Int), .int .i64 u, .int .i64 m] (x0, en, 0, false, he, gno, asv) from
        ⟨R1.out.below ba.out, NZ.out.below ba.out NZ.out.lt, Blk.new wd _ _, B1.out.trans (ba.out.mono B1.out.size), by have := GLT.out; have := BD.out.size; omega, HGN.out, Nat.le_trans B1.out.size BD.out.size⟩)
      clear NZ R1 B1 ba GLT BD
      generalize (wd.alloc (Obj.cells (znRK.cs (x0, en, 0, false, he, gno, asv)).toArray 90)) = w2 at *
      generalize wd.heap.size = q at *
      refine wpAnyS_done (by kernel_rfl) ?_
      go_upto_region 4 with fail
      have S2 := hid (S1.out.below (show Below w2.heap.size w2 w2.drew by (repeat (first | exact Below.refl _ _ | assumption | refine below_drewN ?_ _ | refine Below.drew ?_ | refine Below.alloc ?_ (by (try simp); (try omega)) _ | refine Below.setCell ?_ (by (try simp); (try omega)) _))))
      clear S1
      have HSF := hid (fun (wq : World) (hq : wq.cell? ⟨b, 0, none⟩ = some (.int .i64 d.me) ∧ wq.cell? ⟨q, 0, none⟩ = some (.int .i64 x0) ∧ wq.cell? ⟨gn, 0, none⟩ = some (.int .i64 2)) => hq)
      refine wpIn_wide.1 (wpIn_region_S (n := 0) (fun wq => wq.cell? ⟨b, 0, none⟩ = some (.int .i64 d.me) ∧ wq.cell? ⟨q, 0, none⟩ = some (.int .i64 x0) ∧ wq.cell? ⟨gn, 0, none⟩ = some (.int .i64 2)) [] (by kernel_rfl) ⟨S2.out.R.at_.1, S2.out.xs.1, S2.out.N.cell 0⟩ (fun hHeld => ?_))
      generalize w2.drew = w3 at *
      refine wpAnyS_pure 0 (v := ?_) (fun _ => trivial) (by simp only [List.getElem?_toArray, List.getElem?_cons_succ, List.getElem?_cons_zero]; rfl) (by kernel_rfl) (fun _ _ _ _ _ h => h) ⟨rfl, (by intro c h; cases h), ?_⟩ hHeld ?_
      rotate_left
      focus (intro wS hSw; (try replace hSw := HSF.out wS hSw); (try dsimp only at hSw); go_simp; (try with_reducible rfl))
      (try simp only [Act.put, List.setIfInBounds_toArray, List.set_cons_zero, List.set_cons_succ])
      refine wpAnyS_take 1 (v := ?_) (fun _ => trivial) (by simp only [List.getElem?_toArray, List.getElem?_cons_succ, List.getElem?_cons_zero]; rfl) (by kernel_rfl) (fun _ _ _ _ _ h => h) ⟨rfl, (by intro c h; cases h), ?_⟩ hHeld ?_
      rotate_left
      focus (intro wS hSw; (try replace hSw := HSF.out wS hSw); (try dsimp only at hSw); go_simp; (try with_reducible rfl))
      (try simp only [Act.put, List.setIfInBounds_toArray, List.set_cons_zero, List.set_cons_succ])
      refine wpAnyS_pure 2 (v := ?_) (fun _ => trivial) (by simp only [List.getElem?_toArray, List.getElem?_cons_succ, List.getElem?_cons_zero]; rfl) (by kernel_rfl) (fun _ _ _ _ _ h => h) ⟨rfl, (by intro c h; cases h), ?_⟩ hHeld ?_
      rotate_left
      focus (intro wS hSw; (try replace hSw := HSF.out wS hSw); (try dsimp only at hSw); go_simp; (try with_reducible rfl))
      (try simp only [Act.put, List.setIfInBounds_toArray, List.set_cons_zero, List.set_cons_succ])
      refine wpAnyS_pure 3 (v := ?_) (fun _ => trivial) (by simp only [List.getElem?_toArray, List.getElem?_cons_succ, List.getElem?_cons_zero]; rfl) (by kernel_rfl) (fun _ _ _ _ _ h => h) ⟨rfl, (by intro c h; cases h), ?_⟩ hHeld ?_
      rotate_left
      focus (intro wS hSw; (try replace hSw := HSF.out wS hSw); (try dsimp only at hSw); go_simp; (try with_reducible rfl))
      (try simp only [Act.put, List.setIfInBounds_toArray, List.set_cons_zero, List.set_cons_succ])
      refine wpAnyS_pure 4 (v := ?_) (fun _ => trivial) (by simp only [List.getElem?_toArray, List.getElem?_cons_succ, List.getElem?_cons_zero]; rfl) (by kernel_rfl) (fun _ _ _ _ _ h => h) ⟨rfl, (by intro c h; cases h), ?_⟩ hHeld ?_
      rotate_left
      focus (intro wS hSw; (try replace hSw := HSF.out wS hSw); (try dsimp only at hSw); go_simp; (try with_reducible rfl))
      (try simp only [Act.put, List.setIfInBounds_toArray, List.set_cons_zero, List.set_cons_succ])
      refine wpAnyS_take 5 (v := ?_) (fun _ => trivial) (by simp only [List.getElem?_toArray, List.getElem?_cons_succ, List.getElem?_cons_zero]; rfl) (by kernel_rfl) (fun _ _ _ _ _ h => h) ⟨rfl, (by intro c h; cases h), ?_⟩ hHeld ?_
      rotate_left
      focus (intro wS hSw; (try replace hSw := HSF.out wS hSw); (try dsimp only at hSw); go_simp; (try with_reducible rfl))
      (try simp only [Act.put, List.setIfInBounds_toArray, List.set_cons_zero, List.set_cons_succ])
      refine wpAnyS_pure 6 (v := ?_) (fun _ => trivial) (by simp only [List.getElem?_toArray, List.getElem?_cons_succ, List.getElem?_cons_zero]; rfl) (by kernel_rfl) (fun _ _ _ _ _ h => h) ⟨rfl, (by intro c h; cases h), ?_⟩ hHeld ?_
      rotate_left
      focus (intro wS hSw; (try replace hSw := HSF.out wS hSw); (try dsimp only at hSw); go_simp; (try with_reducible rfl))
      (try simp only [Act.put, List.setIfInBounds_toArray, List.set_cons_zero, List.set_cons_succ])
      refine wpAnyS_pure 7 (v := ?_) (fun _ => trivial) (by simp only [List.getElem?_toArray, List.getElem?_cons_succ, List.getElem?_cons_zero]; rfl) (by kernel_rfl) (fun _ _ _ _ _ h => h) ⟨rfl, (by intro c h; cases h), ?_⟩ hHeld ?_
      rotate_left
      focus (intro wS hSw; (try replace hSw := HSF.out wS hSw); (try dsimp only at hSw); go_simp; (try with_reducible rfl))
      (try simp only [Act.put, List.setIfInBounds_toArray, List.set_cons_zero, List.set_cons_succ])
      refine wpAnyS_take 8 (v := ?_) (fun _ => trivial) (by simp only [List.getElem?_toArray, List.getElem?_cons_succ, List.getElem?_cons_zero]; rfl) (by kernel_rfl) (fun _ _ _ _ _ h => h) ⟨rfl, (by intro c h; cases h), ?_⟩ hHeld ?_
      rotate_left
      focus (intro wS hSw; (try replace hSw := HSF.out wS hSw); (try dsimp only at hSw); go_simp; (try with_reducible rfl))
      (try simp only [Act.put, List.setIfInBounds_toArray, List.set_cons_zero, List.set_cons_succ])
      refine wpAnyS_pure 9 (v := ?_) (fun _ => trivial) (by simp only [List.getElem?_toArray, List.getElem?_cons_succ, List.getElem?_cons_zero]; rfl) (by kernel_rfl) (fun _ _ _ _ _ h => h) ⟨rfl, (by intro c h; cases h), ?_⟩ hHeld ?_
      rotate_left
      focus (intro wS hSw; (try replace hSw := HSF.out wS hSw); (try dsimp only at hSw); go_simp; (try with_reducible rfl))
      (try simp only [Act.put, List.setIfInBounds_toArray, List.set_cons_zero, List.set_cons_succ])
      refine wpAnyS_pure 10 (v := ?_) (fun _ => trivial) (by simp only [List.getElem?_toArray, List.getElem?_cons_succ, List.getElem?_cons_zero]; rfl) (by kernel_rfl) (fun _ _ _ _ _ h => h) ⟨rfl, (by intro c h; cases h), ?_⟩ hHeld ?_
      rotate_left
      focus (intro wS hSw; (try replace hSw := HSF.out wS hSw); (try dsimp only at hSw); go_simp; (try with_reducible rfl))
      (try simp only [Act.put, List.setIfInBounds_toArray, List.set_cons_zero, List.set_cons_succ])
      refine wpAnyS_done (by kernel_rfl) ?_
      clear hHeld HSF
      go_wp2_with fail
      go_ret
      exact ⟨rfl, S2.out.R, gr_below S2.out.B _⟩

end
end Go.Proofs.YtappgjdnfllblaaDoor
