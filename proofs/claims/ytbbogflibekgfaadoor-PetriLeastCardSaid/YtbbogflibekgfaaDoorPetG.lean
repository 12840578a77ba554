
/- Petri: the edges of a net. -/
import Derived.Test.YtbbogflibekgfaaDoorPetF
import Derived.Test.YtbbogflibekgfaaDoorRegS
set_option linter.unusedSimpArgs false
set_option linter.unusedVariables false
namespace Go.Proofs.YtbbogflibekgfaaDoor
open Go.RowKit Go.IntWalk Go.Shelf

def edgeN (trap : Bool) (t : Tr) : Ed := if trap then (wordN t.1, wordN t.2) else (wordN t.2, wordN t.1)
theorem edgesN_take (n : Int) (T : List Tr) (trap : Bool) (k : Nat) (hk : k < T.length) : edgesN (n, T.take (k + 1)) trap = edgesN (n, T.take k) trap ++ [edgeN trap T[k]] := by
  unfold edgesN edgeN
  rw [List.take_add_one, List.getElem?_eq_getElem hk, List.map_append]
  rfl
theorem word64 {n : Int} {s : List Int} (hn : n ≤ 64) (h : setB n s = true) : wordN s < 2 ^ 64 := word_lt (fun p hp => by have := setB_mem h p hp; omega)
theorem edges_ok {n : Int} {T : List Tr} (hok : netOK (n, T) = true) (trap : Bool) : ∀ e ∈ edgesN (n, T) trap, e.1 < 2 ^ 64 ∧ e.2 < 2 ^ 64 := by
  intro e he
  obtain ⟨t, ht, rfl⟩ := List.mem_map.1 he
  simp only [netOK, Bool.and_eq_true, decide_eq_true_eq, List.all_eq_true] at hok
  have h1 := hok.2 t ht
  cases trap
  · exact ⟨word64 hok.1.1.2 h1.2, word64 hok.1.1.2 h1.1⟩
  · exact ⟨word64 hok.1.1.2 h1.1, word64 hok.1.1.2 h1.2⟩
set_option maxRecDepth 100000 in
set_option maxHeartbeats 4000000 in
theorem edges_any (n : Int) (A : Option Addr) (c : Nat) (T : List Tr) (trap : Bool) (w : World) (hl : T.length ≤ maxLen) (h : SlR w w.heap.size A T) (hok : netOK (n, T) = true) :
    Calls Tryd.prog 27 #[.agg #[.int .i64 n, .slice A T.length c], .bool trap] w fun e w' => ∃ v, e = .returned v ∧ edRK.Own w' w.heap.size v (edgesN (n, T) trap) ∧ Below w.heap.size w w' := by
  obtain ⟨w1, hw1⟩ : ∃ w1, w1 = (w.alloc (Obj.cells #[.int .i64 n, .slice A T.length c] 24)) := ⟨_, rfl⟩
  have s1 : w1.heap.size = w.heap.size + 1 := by rw [hw1]; simp
  have B1 : Below w.heap.size w w1 := by rw [hw1]; (repeat (first | exact Below.refl _ _ | assumption | refine below_drewN ?_ _ | refine Below.drew ?_ | refine Below.alloc ?_ (by (try simp); (try omega)) _ | refine Below.setCell ?_ (by (try simp); (try omega)) _))
  have x1 : Blk w1 w.heap.size 24 #[.int .i64 n, .slice A T.length c] := by rw [hw1]; exact Blk.new w _ _
  have y1 := x1.cell 1; have z1 := x1.lt
  simp at y1
  have HB1 := hid B1
  have HOK := hid hok
  have h5000 : T.length ≤ 5000 := by
    simp only [netOK, Bool.and_eq_true, decide_eq_true_eq] at hok
    exact hok.1.2
  clear x1 hok
  go_enter Tryd.func27, Tryd.ntmps27
  go_upto_region 1 with fail
  rw [← hw1]
  clear hw1
  go_upto_region 3 with fail
  go_loopw [5, 12] (fun v i wr => ∃ k : Nat, k ≤ T.length ∧ i = .int .i64 k ∧ edRK.Own wr w.heap.size v (edgesN (n, T.take k) trap) ∧ Below w.heap.size w wr) (fun _ i _ => T.length - (intOf i).toNat)
  case atStart => exact ⟨0, by omega, rfl, RK.Own.nil, HB1.out⟩
  case round =>
    obtain ⟨k, hk, rfl, ho, hB⟩ := hrel
    have HO := hid ho
    have HB := hid hB
    clear ho
    by_cases hlt : k < T.length
    · have hlt' : (k : Int) < T.length := by omega
      obtain ⟨b, off, A1, c1, A2, c2, rfl, hb, g0, g1, hs1, hs2, hl1, hl2⟩ := h.tr hlt
      replace g0 := (bcell hB b _ hb).trans g0
      replace g1 := (bcell hB b _ hb).trans g1
      have hz : b < wr.heap.size := by have := hB.size; omega
      have hst := hid (edgesN_take n T trap k hlt)
      have hsets : (setB n T[k].1 = true ∧ setB n T[k].2 = true) ∧ n ≤ 64 := by
        have := HOK.out
        simp only [netOK, Bool.and_eq_true, decide_eq_true_eq, List.all_eq_true] at this
        exact ⟨this.2 _ (List.getElem_mem hlt), this.1.1.2⟩
      have hr1 : ∀ x ∈ T[k].1, 0 ≤ x ∧ x < 64 := fun x hx => by have := setB_mem hsets.1.1 x hx; omega
      have hr2 : ∀ x ∈ T[k].2, 0 ≤ x ∧ x < 64 := fun x hx => by have := setB_mem hsets.1.2 x hx; omega
      have HW1 := hid (fun W (hW : Below w.heap.size w W) => word_any A1 c1 T[k].1 W hl1 ((hs1.below hW).more hW.size) hr1)
      have HW2 := hid (fun W (hW : Below w.heap.size w W) => word_any A2 c2 T[k].2 W hl2 ((hs2.below hW).more hW.size) hr2)
      have hw64 := hid (And.intro (word64 hsets.2 hsets.1.1) (word64 hsets.2 hsets.1.2))
      clear hs1 hs2 hr1 hr2 hsets hB
      generalize T[k] = t at *
      obtain ⟨I, O⟩ := t
      simp only at *
      have hed := hid (show edgeN trap (I, O) = if trap then (wordN I, wordN O) else (wordN O, wordN I) from rfl)
      generalize wordN I = wi at *
      generalize wordN O = wo at *
      have hX := hid (Blk.new wr 29 #[.slice A1 I.length c1, .slice A2 O.length c2])
      go_upto_region 5 with fail
      have HB5 := hid (show Below w.heap.size w (wr.alloc (Obj.cells #[.slice A1 I.length c1, .slice A2 O.length c2] 29)) from HB.out.alloc HB.out.size _)
      have HO5 := hid (HO.out.alloc (Obj.cells #[.slice A1 I.length c1, .slice A2 O.length c2] 29))
      have xT0 := hX.out.cell 0; have xT1 := hX.out.cell 1; have zT := hX.out.lt
      simp only [List.getElem?_toArray, List.getElem?_cons_zero, List.getElem?_cons_succ] at xT0 xT1
      clear g0 g1 hX HO HB
      generalize wr.heap.size = gT at *
      generalize (wr.alloc (Obj.cells #[.slice A1 I.length c1, .slice A2 O.length c2] 29)) = w5 at *
      have HSF := hid (fun (wq : World) (hq : Below w5.heap.size w5 wq) => And.intro ((bcell hq _ _ zT).trans xT0) ((bcell hq _ _ zT).trans xT1))
      have HWI := hid (fun W (hW : Below w5.heap.size w5 W) => HW1.out W (HB5.out.trans (hW.mono HB5.out.size)))
      have HWO := hid (fun W (hW : Below w5.heap.size w5 W) => HW2.out W (HB5.out.trans (hW.mono HB5.out.size)))
      have BD := hid ((Below.refl w5.heap.size w5).drew)
      have HOD := hid HO5.out.drew
      clear HW1 HW2 xT0 xT1
      refine wpIn_wide.1 (wpIn_region_S (n := 0) (fun wq => Below w5.heap.size w5 wq) [] (by kernel_rfl) BD.out (fun hHeld => ?_))
      generalize w5.drew = wd at *
      refine wpAnyS_pure 0 (v := ?_) (fun _ => trivial) (by simp only [List.getElem?_toArray, List.getElem?_cons_succ, List.getElem?_cons_zero]; rfl) (by kernel_rfl) (fun _ _ _ _ _ h => h) ⟨rfl, (by intro c h; cases h), ?_⟩ hHeld ?_
      rotate_left
      focus (intro wS hSw; (try replace hSw := HSF.out wS hSw); (try dsimp only at hSw); go_simp; (try with_reducible rfl))
      (try simp only [Act.put, List.setIfInBounds_toArray, List.set_cons_zero, List.set_cons_succ])
      refine wpAnyS_take 1 (v := ?_) (fun _ => trivial) (by simp only [List.getElem?_toArray, List.getElem?_cons_succ, List.getElem?_cons_zero]; rfl) (by kernel_rfl) (fun _ _ _ _ _ h => h) ⟨rfl, (by intro c h; cases h), ?_⟩ hHeld ?_
      rotate_left
      focus (intro wS hSw; (try replace hSw := HSF.out wS hSw); (try dsimp only at hSw); go_simp; (try with_reducible rfl))
      (try simp only [Act.put, List.setIfInBounds_toArray, List.set_cons_zero, List.set_cons_succ])
      refine wpAnyS_pure 3 (v := ?_) (fun _ => trivial) (by simp only [List.getElem?_toArray, List.getElem?_cons_succ, List.getElem?_cons_zero]; rfl) (by kernel_rfl) (fun _ _ _ _ _ h => h) ⟨rfl, (by intro c h; cases h), ?_⟩ hHeld ?_
      rotate_left
      focus (intro wS hSw; (try replace hSw := HSF.out wS hSw); (try dsimp only at hSw); go_simp; (try with_reducible rfl))
      (try simp only [Act.put, List.setIfInBounds_toArray, List.set_cons_zero, List.set_cons_succ])
      refine wpAnyS_take 4 (v := ?_) (fun _ => trivial) (by simp only [List.getElem?_toArray, List.getElem?_cons_succ, List.getElem?_cons_zero]; rfl) (by kernel_rfl) (fun _ _ _ _ _ h => h) ⟨rfl, (by intro c h; cases h), ?_⟩ hHeld ?_
      rotate_left
      focus (intro wS hSw; (try replace hSw := HSF.out wS hSw); (try dsimp only at hSw); go_simp; (try with_reducible rfl))
      (try simp only [Act.put, List.setIfInBounds_toArray, List.set_cons_zero, List.set_cons_succ])
      refine wpAnyS_ready [2, 7] (by kernel_rfl) (by simp) (AllReadyS.cons (by simp only [List.getElem?_toArray, List.getElem?_cons_succ, List.getElem?_cons_zero]; rfl) rfl (fun K hK => ?_) (AllReadyS.cons (by simp only [List.getElem?_toArray, List.getElem?_cons_succ, List.getElem?_cons_zero]; rfl) rfl (fun K hK => ?_) AllReadyS.nil))
      · --2
        refine callS (R := fun w' => w' = _) (by intro c h; cases h) (by go_simp; try with_reducible rfl) ((HWO.out _ BD.out).mono (fun e w' ⟨he, hw⟩ => ⟨he, hw.symm⟩)) ?_
        intro w9 hw9
        rw [hw9]
        clear hw9 w9
        refine hK.out _ _ BD.out ?_
        (try simp only [Act.put, List.setIfInBounds_toArray, List.set_cons_zero, List.set_cons_succ])
        clear hK K
        refine wpAnyS_ready [5, 7] (by kernel_rfl) (by simp) (AllReadyS.cons (by simp only [List.getElem?_toArray, List.getElem?_cons_succ, List.getElem?_cons_zero]; rfl) rfl (fun K hK => ?_) (AllReadyS.cons (by simp only [List.getElem?_toArray, List.getElem?_cons_succ, List.getElem?_cons_zero]; rfl) rfl (fun K hK => ?_) AllReadyS.nil))
        · --2 5 7
          refine callS (R := fun w' => w' = _) (by intro c h; cases h) (by go_simp; try with_reducible rfl) ((HWI.out _ BD.out).mono (fun e w' ⟨he, hw⟩ => ⟨he, hw.symm⟩)) ?_
          intro w9 hw9
          rw [hw9]
          clear hw9 w9
          refine hK.out _ _ BD.out ?_
          (try simp only [Act.put, List.setIfInBounds_toArray, List.set_cons_zero, List.set_cons_succ])
          clear hK K
          refine wpAnyS_pure 6 (v := ?_) (fun _ => trivial) (by simp only [List.getElem?_toArray, List.getElem?_cons_succ, List.getElem?_cons_zero]; rfl) (by kernel_rfl) (fun _ _ _ _ _ h => h) ⟨rfl, (by intro c h; cases h), ?_⟩ hHeld ?_
          rotate_left
          focus (intro wS hSw; (try replace hSw := HSF.out wS hSw); (try dsimp only at hSw); go_simp; (try with_reducible rfl))
          (try simp only [Act.put, List.setIfInBounds_toArray, List.set_cons_zero, List.set_cons_succ])
          refine wpAnyS_ready [7] (by kernel_rfl) (by simp) (AllReadyS.cons (by simp only [List.getElem?_toArray, List.getElem?_cons_succ, List.getElem?_cons_zero]; rfl) rfl (fun K hK => ?_) AllReadyS.nil)
          go_simp
          have BE := hid (BD.out.alloc BD.out.size (Obj.cells #[.int .u64 0, .int .u64 0] 65))
          have XE := hid (Blk.new wd 65 #[.int .u64 0, .int .u64 0])
          refine hK.out _ _ BE.out ?_
          clear hK K
          (try simp only [Act.put, List.setIfInBounds_toArray, List.set_cons_zero, List.set_cons_succ])
          clear hHeld
          have hHeld := BE.out
          have hge := hid BD.out.size
          have HOE := hid (HOD.out.alloc (Obj.cells #[.int .u64 0, .int .u64 0] 65))
          generalize wd.heap.size = gE at *
          generalize (wd.alloc (Obj.cells #[.int .u64 0, .int .u64 0] 65)) = wE at *
          refine wpAnyS_ready [8] (by kernel_rfl) (by simp) (AllReadyS.cons (by simp only [List.getElem?_toArray, List.getElem?_cons_succ, List.getElem?_cons_zero]; rfl) rfl (fun K hK => ?_) AllReadyS.nil)
          have zE := XE.out.lt
          have cE0 := XE.out.cell 0
          have cE1 := XE.out.cell 1
          have fE := XE.out.frozen
          simp at cE0 cE1
          go_simp
          have HWF := hid ((BE.out.setCell (p := ⟨gE, 0, none⟩) hge.out (.int .u64 (wo : Nat))).setCell (p := ⟨gE, 1, none⟩) hge.out (.int .u64 (wi : Nat)))
          have XF := hid (show Blk ((wE.setCell ⟨gE, 0, none⟩ (.int .u64 (wo : Nat))).setCell ⟨gE, 1, none⟩ (.int .u64 (wi : Nat))) gE 65 #[.int .u64 (wo : Nat), .int .u64 (wi : Nat)] by
            have := (XE.out.set_ 0 (.int .u64 (wo : Nat))).set_ 1 (.int .u64 (wi : Nat))
            simpa using this)
          refine hK.out _ _ HWF.out ?_
          clear hK K hHeld cE0 cE1 fE zE XE HOE BE HSF
          refine wpAnyS_done (by kernel_rfl) ?_
          generalize ((wE.setCell ⟨gE, 0, none⟩ (.int .u64 (wo : Nat))).setCell ⟨gE, 1, none⟩ (.int .u64 (wi : Nat))) = wG at *
          cases trap with
          | false =>
            have XG := hid XF.out
            have HBG := hid HWF.out
            clear XF HWF
            go_upto_region 8 with fail
            have cG0 := XG.out.cell 0; have cG1 := XG.out.cell 1; have zG := XG.out.lt
            simp at cG0 cG1
            have HOG := hid (HO5.out.below HBG.out)
            have SG := hid (edRK.blk (l := [(wo, wi)]) (Blk.new wG 65 #[.int .u64 (wo : Nat), .int .u64 (wi : Nat)]) (by intro e he; simp only [List.mem_singleton] at he; subst he; exact ⟨by first | exact hw64.out.1 | exact hw64.out.2, by first | exact hw64.out.2 | exact hw64.out.1⟩))
            have hl9 := hid (show (edgesN (n, T.take k) false).length + ([(wo, wi)] : List Ed).length ≤ 100000000 by unfold edgesN; rw [List.length_map, List.length_take, List.length_singleton]; omega)
            have hb9 := hid (show w.heap.size ≤ (wG.alloc (Obj.cells #[.int .u64 (wo : Nat), .int .u64 (wi : Nat)] 65)).heap.size by have h1 := HB5.out.size; have h2 := HBG.out.size; simp; omega)
            go_upto_region 9 with (at_builtin; refine edRK.appL _ rfl (.tmp 29) (.tmp 31) rfl rfl (HOG.out.alloc _) (ys := [(wo, wi)]) (c := 1) rfl SG.out hl9.out hb9.out ?_; intro A9 c9 w9 ho9 hg9)
            have HO9 := hid ho9
            have hg9' := hid hg9
            clear ho9 hg9
            have HB9 := hid (show Below w.heap.size w w9 from ((HB5.out.trans (HBG.out.mono HB5.out.size)).alloc (by have h1 := HB5.out.size; have h2 := HBG.out.size; omega) _).grown hg9'.out hb9.out (fun g hg => (own_blk HO5.out g hg).1))
            go_wp2_with fail
            go_roundw
            case rel => exact ⟨k + 1, by omega, by go_num, by rw [hst.out, hed.out]; simpa using HO9.out, HB9.out⟩
            case measure => simp [intOf]; omega
          | true =>
            have cF0 := XF.out.cell 0; have cF1 := XF.out.cell 1; have zF := XF.out.lt; have fF := XF.out.frozen
            simp at cF0 cF1
            go_upto_region 8 with fail
            have HBG := hid ((HWF.out.setCell (p := ⟨gE, 0, none⟩) hge.out (.int .u64 (wi : Nat))).setCell (p := ⟨gE, 1, none⟩) hge.out (.int .u64 (wo : Nat)))
            have XG := hid (show Blk ((wG.setCell ⟨gE, 0, none⟩ (.int .u64 (wi : Nat))).setCell ⟨gE, 1, none⟩ (.int .u64 (wo : Nat))) gE 65 #[.int .u64 (wi : Nat), .int .u64 (wo : Nat)] by
              have := (XF.out.set_ 0 (.int .u64 (wi : Nat))).set_ 1 (.int .u64 (wo : Nat))
              simpa using this)
            clear XF HWF cF0 cF1 zF fF
            generalize ((wG.setCell ⟨gE, 0, none⟩ (.int .u64 (wi : Nat))).setCell ⟨gE, 1, none⟩ (.int .u64 (wo : Nat))) = wG at *
            have cG0 := XG.out.cell 0; have cG1 := XG.out.cell 1; have zG := XG.out.lt
            simp at cG0 cG1
            have HOG := hid (HO5.out.below HBG.out)
            have SG := hid (edRK.blk (l := [(wi, wo)]) (Blk.new wG 65 #[.int .u64 (wi : Nat), .int .u64 (wo : Nat)]) (by intro e he; simp only [List.mem_singleton] at he; subst he; exact ⟨by first | exact hw64.out.1 | exact hw64.out.2, by first | exact hw64.out.2 | exact hw64.out.1⟩))
            have hl9 := hid (show (edgesN (n, T.take k) true).length + ([(wi, wo)] : List Ed).length ≤ 100000000 by unfold edgesN; rw [List.length_map, List.length_take, List.length_singleton]; omega)
            have hb9 := hid (show w.heap.size ≤ (wG.alloc (Obj.cells #[.int .u64 (wi : Nat), .int .u64 (wo : Nat)] 65)).heap.size by have h1 := HB5.out.size; have h2 := HBG.out.size; simp; omega)
            go_upto_region 9 with (at_builtin; refine edRK.appL _ rfl (.tmp 29) (.tmp 31) rfl rfl (HOG.out.alloc _) (ys := [(wi, wo)]) (c := 1) rfl SG.out hl9.out hb9.out ?_; intro A9 c9 w9 ho9 hg9)
            have HO9 := hid ho9
            have hg9' := hid hg9
            clear ho9 hg9
            have HB9 := hid (show Below w.heap.size w w9 from ((HB5.out.trans (HBG.out.mono HB5.out.size)).alloc (by have h1 := HB5.out.size; have h2 := HBG.out.size; omega) _).grown hg9'.out hb9.out (fun g hg => (own_blk HO5.out g hg).1))
            go_wp2_with fail
            go_roundw
            case rel => exact ⟨k + 1, by omega, by go_num, by rw [hst.out, hed.out]; simpa using HO9.out, HB9.out⟩
            case measure => simp [intOf]; omega
        · --2 7 5
          go_simp
          have BE := hid (BD.out.alloc BD.out.size (Obj.cells #[.int .u64 0, .int .u64 0] 65))
          have XE := hid (Blk.new wd 65 #[.int .u64 0, .int .u64 0])
          refine hK.out _ _ BE.out ?_
          clear hK K
          (try simp only [Act.put, List.setIfInBounds_toArray, List.set_cons_zero, List.set_cons_succ])
          clear hHeld
          have hHeld := BE.out
          have hge := hid BD.out.size
          have HOE := hid (HOD.out.alloc (Obj.cells #[.int .u64 0, .int .u64 0] 65))
          generalize wd.heap.size = gE at *
          generalize (wd.alloc (Obj.cells #[.int .u64 0, .int .u64 0] 65)) = wE at *
          refine wpAnyS_ready [5] (by kernel_rfl) (by simp) (AllReadyS.cons (by simp only [List.getElem?_toArray, List.getElem?_cons_succ, List.getElem?_cons_zero]; rfl) rfl (fun K hK => ?_) AllReadyS.nil)
          refine callS (R := fun w' => w' = _) (by intro c h; cases h) (by go_simp; try with_reducible rfl) ((HWI.out _ BE.out).mono (fun e w' ⟨he, hw⟩ => ⟨he, hw.symm⟩)) ?_
          intro w9 hw9
          rw [hw9]
          clear hw9 w9
          refine hK.out _ _ BE.out ?_
          (try simp only [Act.put, List.setIfInBounds_toArray, List.set_cons_zero, List.set_cons_succ])
          clear hK K
          refine wpAnyS_pure 6 (v := ?_) (fun _ => trivial) (by simp only [List.getElem?_toArray, List.getElem?_cons_succ, List.getElem?_cons_zero]; rfl) (by kernel_rfl) (fun _ _ _ _ _ h => h) ⟨rfl, (by intro c h; cases h), ?_⟩ hHeld ?_
          rotate_left
          focus (intro wS hSw; (try replace hSw := HSF.out wS hSw); (try dsimp only at hSw); go_simp; (try with_reducible rfl))
          (try simp only [Act.put, List.setIfInBounds_toArray, List.set_cons_zero, List.set_cons_succ])
          refine wpAnyS_ready [8] (by kernel_rfl) (by simp) (AllReadyS.cons (by simp only [List.getElem?_toArray, List.getElem?_cons_succ, List.getElem?_cons_zero]; rfl) rfl (fun K hK => ?_) AllReadyS.nil)
          have zE := XE.out.lt
          have cE0 := XE.out.cell 0
          have cE1 := XE.out.cell 1
          have fE := XE.out.frozen
          simp at cE0 cE1
          go_simp
          have HWF := hid ((BE.out.setCell (p := ⟨gE, 0, none⟩) hge.out (.int .u64 (wo : Nat))).setCell (p := ⟨gE, 1, none⟩) hge.out (.int .u64 (wi : Nat)))
          have XF := hid (show Blk ((wE.setCell ⟨gE, 0, none⟩ (.int .u64 (wo : Nat))).setCell ⟨gE, 1, none⟩ (.int .u64 (wi : Nat))) gE 65 #[.int .u64 (wo : Nat), .int .u64 (wi : Nat)] by
            have := (XE.out.set_ 0 (.int .u64 (wo : Nat))).set_ 1 (.int .u64 (wi : Nat))
            simpa using this)
          refine hK.out _ _ HWF.out ?_
          clear hK K hHeld cE0 cE1 fE zE XE HOE BE HSF
          refine wpAnyS_done (by kernel_rfl) ?_
          generalize ((wE.setCell ⟨gE, 0, none⟩ (.int .u64 (wo : Nat))).setCell ⟨gE, 1, none⟩ (.int .u64 (wi : Nat))) = wG at *
          cases trap with
          | false =>
            have XG := hid XF.out
            have HBG := hid HWF.out
            clear XF HWF
            go_upto_region 8 with fail
            have cG0 := XG.out.cell 0; have cG1 := XG.out.cell 1; have zG := XG.out.lt
            simp at cG0 cG1
            have HOG := hid (HO5.out.below HBG.out)
            have SG := hid (edRK.blk (l := [(wo, wi)]) (Blk.new wG 65 #[.int .u64 (wo : Nat), .int .u64 (wi : Nat)]) (by intro e he; simp only [List.mem_singleton] at he; subst he; exact ⟨by first | exact hw64.out.1 | exact hw64.out.2, by first | exact hw64.out.2 | exact hw64.out.1⟩))
            have hl9 := hid (show (edgesN (n, T.take k) false).length + ([(wo, wi)] : List Ed).length ≤ 100000000 by unfold edgesN; rw [List.length_map, List.length_take, List.length_singleton]; omega)
            have hb9 := hid (show w.heap.size ≤ (wG.alloc (Obj.cells #[.int .u64 (wo : Nat), .int .u64 (wi : Nat)] 65)).heap.size by have h1 := HB5.out.size; have h2 := HBG.out.size; simp; omega)
            go_upto_region 9 with (at_builtin; refine edRK.appL _ rfl (.tmp 29) (.tmp 31) rfl rfl (HOG.out.alloc _) (ys := [(wo, wi)]) (c := 1) rfl SG.out hl9.out hb9.out ?_; intro A9 c9 w9 ho9 hg9)
            have HO9 := hid ho9
            have hg9' := hid hg9
            clear ho9 hg9
            have HB9 := hid (show Below w.heap.size w w9 from ((HB5.out.trans (HBG.out.mono HB5.out.size)).alloc (by have h1 := HB5.out.size; have h2 := HBG.out.size; omega) _).grown hg9'.out hb9.out (fun g hg => (own_blk HO5.out g hg).1))
            go_wp2_with fail
            go_roundw
            case rel => exact ⟨k + 1, by omega, by go_num, by rw [hst.out, hed.out]; simpa using HO9.out, HB9.out⟩
            case measure => simp [intOf]; omega
          | true =>
            have cF0 := XF.out.cell 0; have cF1 := XF.out.cell 1; have zF := XF.out.lt; have fF := XF.out.frozen
            simp at cF0 cF1
            go_upto_region 8 with fail
            have HBG := hid ((HWF.out.setCell (p := ⟨gE, 0, none⟩) hge.out (.int .u64 (wi : Nat))).setCell (p := ⟨gE, 1, none⟩) hge.out (.int .u64 (wo : Nat)))
            have XG := hid (show Blk ((wG.setCell ⟨gE, 0, none⟩ (.int .u64 (wi : Nat))).setCell ⟨gE, 1, none⟩ (.int .u64 (wo : Nat))) gE 65 #[.int .u64 (wi : Nat), .int .u64 (wo : Nat)] by
              have := (XF.out.set_ 0 (.int .u64 (wi : Nat))).set_ 1 (.int .u64 (wo : Nat))
              simpa using this)
            clear XF HWF cF0 cF1 zF fF
            generalize ((wG.setCell ⟨gE, 0, none⟩ (.int .u64 (wi : Nat))).setCell ⟨gE, 1, none⟩ (.int .u64 (wo : Nat))) = wG at *
            have cG0 := XG.out.cell 0; have cG1 := XG.out.cell 1; have zG := XG.out.lt
            simp at cG0 cG1
            have HOG := hid (HO5.out.below HBG.out)
            have SG := hid (edRK.blk (l := [(wi, wo)]) (Blk.new wG 65 #[.int .u64 (wi : Nat), .int .u64 (wo : Nat)]) (by intro e he; simp only [List.mem_singleton] at he; subst he; exact ⟨by first | exact hw64.out.1 | exact hw64.out.2, by first | exact hw64.out.2 | exact hw64.out.1⟩))
            have hl9 := hid (show (edgesN (n, T.take k) true).length + ([(wi, wo)] : List Ed).length ≤ 100000000 by unfold edgesN; rw [List.length_map, List.length_take, List.length_singleton]; omega)
            have hb9 := hid (show w.heap.size ≤ (wG.alloc (Obj.cells #[.int .u64 (wi : Nat), .int .u64 (wo : Nat)] 65)).heap.size by have h1 := HB5.out.size; have h2 := HBG.out.size; simp; omega)
            go_upto_region 9 with (at_builtin; refine edRK.appL _ rfl (.tmp 29) (.tmp 31) rfl rfl (HOG.out.alloc _) (ys := [(wi, wo)]) (c := 1) rfl SG.out hl9.out hb9.out ?_; intro A9 c9 w9 ho9 hg9)
            have HO9 := hid ho9
            have hg9' := hid hg9
            clear ho9 hg9
            have HB9 := hid (show Below w.heap.size w w9 from ((HB5.out.trans (HBG.out.mono HB5.out.size)).alloc (by have h1 := HB5.out.size; have h2 := HBG.out.size; omega) _).grown hg9'.out hb9.out (fun g hg => (own_blk HO5.out g hg).1))
            go_wp2_with fail
            go_roundw
            case rel => exact ⟨k + 1, by omega, by go_num, by rw [hst.out, hed.out]; simpa using HO9.out, HB9.out⟩
            case measure => simp [intOf]; omega
      · --7 2 5
        go_simp
        have BE := hid (BD.out.alloc BD.out.size (Obj.cells #[.int .u64 0, .int .u64 0] 65))
        have XE := hid (Blk.new wd 65 #[.int .u64 0, .int .u64 0])
        refine hK.out _ _ BE.out ?_
        clear hK K
        (try simp only [Act.put, List.setIfInBounds_toArray, List.set_cons_zero, List.set_cons_succ])
        clear hHeld
        have hHeld := BE.out
        have hge := hid BD.out.size
        have HOE := hid (HOD.out.alloc (Obj.cells #[.int .u64 0, .int .u64 0] 65))
        generalize wd.heap.size = gE at *
        generalize (wd.alloc (Obj.cells #[.int .u64 0, .int .u64 0] 65)) = wE at *
        refine wpAnyS_ready [2] (by kernel_rfl) (by simp) (AllReadyS.cons (by simp only [List.getElem?_toArray, List.getElem?_cons_succ, List.getElem?_cons_zero]; rfl) rfl (fun K hK => ?_) AllReadyS.nil)
        refine callS (R := fun w' => w' = _) (by intro c h; cases h) (by go_simp; try with_reducible rfl) ((HWO.out _ BE.out).mono (fun e w' ⟨he, hw⟩ => ⟨he, hw.symm⟩)) ?_
        intro w9 hw9
        rw [hw9]
        clear hw9 w9
        refine hK.out _ _ BE.out ?_
        (try simp only [Act.put, List.setIfInBounds_toArray, List.set_cons_zero, List.set_cons_succ])
        clear hK K
        refine wpAnyS_ready [5] (by kernel_rfl) (by simp) (AllReadyS.cons (by simp only [List.getElem?_toArray, List.getElem?_cons_succ, List.getElem?_cons_zero]; rfl) rfl (fun K hK => ?_) AllReadyS.nil)
        refine callS (R := fun w' => w' = _) (by intro c h; cases h) (by go_simp; try with_reducible rfl) ((HWI.out _ BE.out).mono (fun e w' ⟨he, hw⟩ => ⟨he, hw.symm⟩)) ?_
        intro w9 hw9
        rw [hw9]
        clear hw9 w9
        refine hK.out _ _ BE.out ?_
        (try simp only [Act.put, List.setIfInBounds_toArray, List.set_cons_zero, List.set_cons_succ])
        clear hK K
        refine wpAnyS_pure 6 (v := ?_) (fun _ => trivial) (by simp only [List.getElem?_toArray, List.getElem?_cons_succ, List.getElem?_cons_zero]; rfl) (by kernel_rfl) (fun _ _ _ _ _ h => h) ⟨rfl, (by intro c h; cases h), ?_⟩ hHeld ?_
        rotate_left
        focus (intro wS hSw; (try replace hSw := HSF.out wS hSw); (try dsimp only at hSw); go_simp; (try with_reducible rfl))
        (try simp only [Act.put, List.setIfInBounds_toArray, List.set_cons_zero, List.set_cons_succ])
        refine wpAnyS_ready [8] (by kernel_rfl) (by simp) (AllReadyS.cons (by simp only [List.getElem?_toArray, List.getElem?_cons_succ, List.getElem?_cons_zero]; rfl) rfl (fun K hK => ?_) AllReadyS.nil)
        have zE := XE.out.lt
        have cE0 := XE.out.cell 0
        have cE1 := XE.out.cell 1
        have fE := XE.out.frozen
        simp at cE0 cE1
        go_simp
        have HWF := hid ((BE.out.setCell (p := ⟨gE, 0, none⟩) hge.out (.int .u64 (wo : Nat))).setCell (p := ⟨gE, 1, none⟩) hge.out (.int .u64 (wi : Nat)))
        have XF := hid (show Blk ((wE.setCell ⟨gE, 0, none⟩ (.int .u64 (wo : Nat))).setCell ⟨gE, 1, none⟩ (.int .u64 (wi : Nat))) gE 65 #[.int .u64 (wo : Nat), .int .u64 (wi : Nat)] by
          have := (XE.out.set_ 0 (.int .u64 (wo : Nat))).set_ 1 (.int .u64 (wi : Nat))
          simpa using this)
        refine hK.out _ _ HWF.out ?_
        clear hK K hHeld cE0 cE1 fE zE XE HOE BE HSF
        refine wpAnyS_done (by kernel_rfl) ?_
        generalize ((wE.setCell ⟨gE, 0, none⟩ (.int .u64 (wo : Nat))).setCell ⟨gE, 1, none⟩ (.int .u64 (wi : Nat))) = wG at *
        cases trap with
        | false =>
          have XG := hid XF.out
          have HBG := hid HWF.out
          clear XF HWF
          go_upto_region 8 with fail
          have cG0 := XG.out.cell 0; have cG1 := XG.out.cell 1; have zG := XG.out.lt
          simp at cG0 cG1
          have HOG := hid (HO5.out.below HBG.out)
          have SG := hid (edRK.blk (l := [(wo, wi)]) (Blk.new wG 65 #[.int .u64 (wo : Nat), .int .u64 (wi : Nat)]) (by intro e he; simp only [List.mem_singleton] at he; subst he; exact ⟨by first | exact hw64.out.1 | exact hw64.out.2, by first | exact hw64.out.2 | exact hw64.out.1⟩))
          have hl9 := hid (show (edgesN (n, T.take k) false).length + ([(wo, wi)] : List Ed).length ≤ 100000000 by unfold edgesN; rw [List.length_map, List.length_take, List.length_singleton]; omega)
          have hb9 := hid (show w.heap.size ≤ (wG.alloc (Obj.cells #[.int .u64 (wo : Nat), .int .u64 (wi : Nat)] 65)).heap.size by have h1 := HB5.out.size; have h2 := HBG.out.size; simp; omega)
          go_upto_region 9 with (at_builtin; refine edRK.appL _ rfl (.tmp 29) (.tmp 31) rfl rfl (HOG.out.alloc _) (ys := [(wo, wi)]) (c := 1) rfl SG.out hl9.out hb9.out ?_; intro A9 c9 w9 ho9 hg9)
          have HO9 := hid ho9
          have hg9' := hid hg9
          clear ho9 hg9
          have HB9 := hid (show Below w.heap.size w w9 from ((HB5.out.trans (HBG.out.mono HB5.out.size)).alloc (by have h1 := HB5.out.size; have h2 := HBG.out.size; omega) _).grown hg9'.out hb9.out (fun g hg => (own_blk HO5.out g hg).1))
          go_wp2_with fail
          go_roundw
          case rel => exact ⟨k + 1, by omega, by go_num, by rw [hst.out, hed.out]; simpa using HO9.out, HB9.out⟩
          case measure => simp [intOf]; omega
        | true =>
          have cF0 := XF.out.cell 0; have cF1 := XF.out.cell 1; have zF := XF.out.lt; have fF := XF.out.frozen
          simp at cF0 cF1
          go_upto_region 8 with fail
          have HBG := hid ((HWF.out.setCell (p := ⟨gE, 0, none⟩) hge.out (.int .u64 (wi : Nat))).setCell (p := ⟨gE, 1, none⟩) hge.out (.int .u64 (wo : Nat)))
          have XG := hid (show Blk ((wG.setCell ⟨gE, 0, none⟩ (.int .u64 (wi : Nat))).setCell ⟨gE, 1, none⟩ (.int .u64 (wo : Nat))) gE 65 #[.int .u64 (wi : Nat), .int .u64 (wo : Nat)] by
            have := (XF.out.set_ 0 (.int .u64 (wi : Nat))).set_ 1 (.int .u64 (wo : Nat))
            simpa using this)
          clear XF HWF cF0 cF1 zF fF
          generalize ((wG.setCell ⟨gE, 0, none⟩ (.int .u64 (wi : Nat))).setCell ⟨gE, 1, none⟩ (.int .u64 (wo : Nat))) = wG at *
          have cG0 := XG.out.cell 0; have cG1 := XG.out.cell 1; have zG := XG.out.lt
          simp at cG0 cG1
          have HOG := hid (HO5.out.below HBG.out)
          have SG := hid (edRK.blk (l := [(wi, wo)]) (Blk.new wG 65 #[.int .u64 (wi : Nat), .int .u64 (wo : Nat)]) (by intro e he; simp only [List.mem_singleton] at he; subst he; exact ⟨by first | exact hw64.out.1 | exact hw64.out.2, by first | exact hw64.out.2 | exact hw64.out.1⟩))
          have hl9 := hid (show (edgesN (n, T.take k) true).length + ([(wi, wo)] : List Ed).length ≤ 100000000 by unfold edgesN; rw [List.length_map, List.length_take, List.length_singleton]; omega)
          have hb9 := hid (show w.heap.size ≤ (wG.alloc (Obj.cells #[.int .u64 (wi : Nat), .int .u64 (wo : Nat)] 65)).heap.size by have h1 := HB5.out.size; have h2 := HBG.out.size; simp; omega)
          go_upto_region 9 with (at_builtin; refine edRK.appL _ rfl (.tmp 29) (.tmp 31) rfl rfl (HOG.out.alloc _) (ys := [(wi, wo)]) (c := 1) rfl SG.out hl9.out hb9.out ?_; intro A9 c9 w9 ho9 hg9)
          have HO9 := hid ho9
          have hg9' := hid hg9
          clear ho9 hg9
          have HB9 := hid (show Below w.heap.size w w9 from ((HB5.out.trans (HBG.out.mono HB5.out.size)).alloc (by have h1 := HB5.out.size; have h2 := HBG.out.size; omega) _).grown hg9'.out hb9.out (fun g hg => (own_blk HO5.out g hg).1))
          go_wp2_with fail
          go_roundw
          case rel => exact ⟨k + 1, by omega, by go_num, by rw [hst.out, hed.out]; simpa using HO9.out, HB9.out⟩
          case measure => simp [intOf]; omega
    · obtain rfl : k = T.length := by omega
      rw [List.take_length] at HO
      clear hB
      go_wp2_with fail
      go_ret
      exact ⟨_, rfl, HO.out, HB.out⟩
end Go.Proofs.YtbbogflibekgfaaDoor
