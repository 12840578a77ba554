
/- Petri: PetriKeeps, the walk. -/
import Derived.Test.YtbbogflibekgfaaDoorPetKp
import Derived.Test.YtbbogflibekgfaaDoorPetW
set_option linter.unusedSimpArgs false
set_option linter.unusedVariables false
namespace Go.Proofs.YtbbogflibekgfaaDoor
open Go.RowKit Go.IntWalk Go.Shelf

theorem emptyN_succ (m s : List Int) (k : Nat) (hk : k < s.length) : emptyN m (s.take (k + 1)) = (emptyN m (s.take k) && decide (m.getD s[k].toNat 0 = 0)) := by
  unfold emptyN
  rw [List.take_add_one, List.getElem?_eq_getElem hk, List.all_append]
  simp
theorem markedN_succ (m s : List Int) (k : Nat) (hk : k < s.length) : markedN m (s.take (k + 1)) = (markedN m (s.take k) || decide (0 < m.getD s[k].toNat 0)) := by
  unfold markedN
  rw [List.take_add_one, List.getElem?_eq_getElem hk, List.any_append]
  simp
theorem mark_len {N : Nat} {T : List Tr} {m : List Int} (h : markOK ((N : Int), T) m = true) : m.length = N := by
  simp only [markOK, Bool.and_eq_true, decide_eq_true_eq] at h
  omega
set_option maxRecDepth 100000 in
set_option maxHeartbeats 8000000 in
theorem pkeeps_any (n : Int) (A : Option Addr) (c : Nat) (T : List Tr) (A2 : Option Addr) (d2 : Nat) (m0 : List Int) (bits : Int) (A4 : Option Addr) (d4 : Nat) (l : List Int) (w : World) (hl : T.length ≤ maxLen) (h : SlR w w.heap.size A T) (hm0 : m0.length ≤ maxLen) (hM0 : SlR w w.heap.size A2 m0) (hll : l.length ≤ maxLen) (hL : SlR w w.heap.size A4 l) (hE : Env w) :
    Calls Tryd.prog 4 #[.agg #[.int .i64 n, .slice A T.length c], .slice A2 m0.length d2, .int .i64 bits, .slice A4 l.length d4] w fun e w' => e = .returned (.bool true) ∧ Below w.heap.size w w' := by
  obtain ⟨w1, hw1⟩ : ∃ w1, w1 = (w.alloc (Obj.cells #[.int .i64 n, .slice A T.length c] 24)) := ⟨_, rfl⟩
  have B1 := hid (show Below w.heap.size w w1 by rw [hw1]; (repeat (first | exact Below.refl _ _ | assumption | refine below_drewN ?_ _ | refine Below.drew ?_ | refine Below.alloc ?_ (by (try simp); (try omega)) _ | refine Below.setCell ?_ (by (try simp); (try omega)) _)))
  have X1 := hid (show Blk w1 w.heap.size 24 #[.int .i64 n, .slice A T.length c] by rw [hw1]; exact Blk.new w _ _)
  have HS := hid (psmall_any w1 (hE.below B1.out hE.pos))
  have HE := hid hE
  have H := hid h
  have hl2 := hid hl
  have HM0 := hid hM0
  have HL := hid hL
  have hm2 := hid hm0
  unfold maxLen at hm0 hll
  clear h hE hl hM0 hL
  go_enter Tryd.func4, Tryd.ntmps4
  go_upto_region 1 with fail
  rw [← hw1]
  clear hw1
  go_upto_region 2 with (go_at_call 8; refine HS.out.mono ?_; rintro e w2 ⟨rfl, hB⟩)
  have B2 := hid (B1.out.trans (hB.mono B1.out.size))
  have X2 := hid (X1.out.below hB X1.out.lt)
  clear hB HS B1 X1
  have x0 := X2.out.cell 0; have x1 := X2.out.cell 1; have xz := X2.out.lt
  simp at x0 x1
  have HT0 := hid (fun (W : World) (hW : Below w2.heap.size w2 W) => show SlR W W.heap.size A T from ((H.out.below (B2.out.trans (hW.mono B2.out.size))).more (B2.out.trans (hW.mono B2.out.size)).size))
  have HFI := hid (fits_any n A c T A2 d2 m0 10 20 w2 hl2.out (HT0.out _ (Below.refl _ _)) hm2.out ((HM0.out.below B2.out).more B2.out.size))
  have hfp := hid (show fitsN n T m0 10 20 = true → netOK (n, T) = true ∧ T.length ≤ 20 ∧ n ≤ 10 ∧ markOK (n, T) m0 = true from fun h => by
    unfold fitsN fewN at h
    simp only [Bool.and_eq_true, decide_eq_true_eq] at h
    exact ⟨h.1.1.2, by have := h.1.1.1.1.2; omega, h.1.1.1.1.1, h.2⟩)
  generalize fitsN n T m0 10 20 = ok at *
  cases ok with
  | false =>
    go_wp2_with (go_at_call 9; refine HFI.out.mono ?_; rintro e w3 ⟨rfl, hB⟩)
    have BW := hid (B2.out.trans (hB.mono B2.out.size))
    clear hB
    go_ret
    exact ⟨rfl, BW.out⟩
  | true =>
  obtain ⟨hok, h20, hn10, hmk⟩ := hfp.out rfl
  have hn0 : 0 ≤ n := by
    simp only [netOK, Bool.and_eq_true, decide_eq_true_eq] at hok
    exact hok.1.1.1
  obtain ⟨N, hN⟩ : ∃ N : Nat, n = N := ⟨n.toNat, by omega⟩
  subst hN
  have hN10 : N ≤ 10 := by omega
  have HOK := hid hok
  have HMK := hid hmk
  clear hok hmk hfp hn10 hn0
  by_cases hl60 : (60 : Int) < l.length
  case pos =>
    as_aux_lemma =>
      go_wp2_with (go_at_call 9; refine HFI.out.mono ?_; rintro e w3 ⟨rfl, hB⟩)
      have BW := hid (B2.out.trans (hB.mono B2.out.size))
      clear hB
      go_wp2_with fail
      go_ret
      exact ⟨rfl, BW.out⟩
  go_upto_region 4 with (go_at_call 9; refine HFI.out.mono ?_; rintro e w3 ⟨rfl, hB3⟩)
  have B3 := hid (show Below w2.heap.size w2 w3 from hB3)
  clear hB3 HFI
  have HSF := hid (fun (wq : World) (hq : Below w2.heap.size w2 wq) => And.intro ((bcell hq _ _ xz).trans x0) ((bcell hq _ _ xz).trans x1))
  have HPK := hid (fun (b : Int) (W : World) => (show Calls Tryd.prog 14 #[.int .i64 b, .int .i64 (N : Nat)] W fun e w' => ∃ A' c', e = .returned (.slice A' (pickN b N).length c') ∧ SlR w' w'.heap.size A' (pickN b N) ∧ Below W.heap.size W w' from
    (pick_any b N W (by omega)).mono (fun e w' ⟨A', c', he, ho, hb⟩ => by
      obtain ⟨A9, c9, e9, _, _, hs⟩ := ho.slr (fun x hx => by have := pickN_mem.1 hx; exact i64s x (by omega))
      injection e9 with e9
      rw [← e9] at hs
      exact ⟨A', c', he, hs, hb⟩)))
  have HLG := hid (fun (trap : Bool) (P : List Int) (A4 : Option Addr) (c4 : Nat) (W : World) (hW : Below w2.heap.size w2 W) (hs : SlR W W.heap.size A4 P) (hp : P.length ≤ maxLen) => (show Calls Tryd.prog 13 #[.agg #[.int .i64 (N : Nat), .slice A T.length c], .slice A4 P.length c4, .bool trap] W fun e w' => ∃ A' c' r, e = .returned (.slice A' r.length c') ∧ LargeL N T trap P r ∧ r.length ≤ c' ∧ c' ≤ maxLen ∧ SlR w' w'.heap.size A' r ∧ Below W.heap.size W w' from
    (largest_any (N : Int) A c T A4 c4 P trap W hl2.out (HT0.out _ hW) hp hs HOK.out (HE.out.below (B2.out.trans (hW.mono B2.out.size)) HE.out.pos)).mono (fun e w' ⟨A', c', r, he, hg, ho, hb⟩ => by
      obtain ⟨A9, c9, e9, h1, h2, hs⟩ := ho.slr (large_i64 hg)
      injection e9 with e9 _ e8
      rw [← e9] at hs
      rw [← e8] at h1 h2
      exact ⟨A', c', r, he, hg, h1, h2, hs, hb⟩)))
  have BD1 := hid (B3.out.drew)
  have WD1 := hid ((Below.refl w3.heap.size w3).drew)
  refine wpIn_wide.1 (wpIn_region_S (n := 0) (fun wq => Below w2.heap.size w2 wq) [] (by kernel_rfl) BD1.out (fun hHeld => ?_))
  generalize w3.drew = wd1 at *
  refine wpAnyG_take 0 (v := ?_) (fun _ => trivial) (by simp only [List.getElem?_toArray, List.getElem?_cons_succ, List.getElem?_cons_zero]; rfl) (by kernel_rfl) (fun _ _ _ _ _ h => h) ⟨(by rfl), (by intro c h; cases h), ?_⟩ hHeld ?_
  rotate_left
  focus (intro wS hSw; (try replace hSw := HSF.out wS hSw); (try dsimp only at hSw); go_simp; (try with_reducible rfl))
  (try simp only [Act.put, List.setIfInBounds_toArray, List.set_cons_zero, List.set_cons_succ])
  refine wpAnyG_pure 1 (v := ?_) (fun _ => trivial) (by simp only [List.getElem?_toArray, List.getElem?_cons_succ, List.getElem?_cons_zero]; rfl) (by kernel_rfl) (fun _ _ _ _ _ h => h) ⟨(by rfl), (by intro c h; cases h), ?_⟩ hHeld ?_
  rotate_left
  focus (intro wS hSw; (try replace hSw := HSF.out wS hSw); (try dsimp only at hSw); go_simp; (try with_reducible rfl))
  (try simp only [Act.put, List.setIfInBounds_toArray, List.set_cons_zero, List.set_cons_succ])
  refine wpAnyG_pure 2 (v := ?_) (fun _ => trivial) (by simp only [List.getElem?_toArray, List.getElem?_cons_succ, List.getElem?_cons_zero]; rfl) (by kernel_rfl) (fun _ _ _ _ _ h => h) ⟨(by rfl), (by intro c h; cases h), ?_⟩ hHeld ?_
  rotate_left
  focus (intro wS hSw; (try replace hSw := HSF.out wS hSw); (try dsimp only at hSw); go_simp; (try with_reducible rfl))
  (try simp only [Act.put, List.setIfInBounds_toArray, List.set_cons_zero, List.set_cons_succ])
  refine wpAnyG_take 3 (v := ?_) (fun _ => trivial) (by simp only [List.getElem?_toArray, List.getElem?_cons_succ, List.getElem?_cons_zero]; rfl) (by kernel_rfl) (fun _ _ _ _ _ h => h) ⟨(by rfl), (by intro c h; cases h), ?_⟩ hHeld ?_
  rotate_left
  focus (intro wS hSw; (try replace hSw := HSF.out wS hSw); (try dsimp only at hSw); go_simp; (try with_reducible rfl))
  (try simp only [Act.put, List.setIfInBounds_toArray, List.set_cons_zero, List.set_cons_succ])
  refine wpAnyS_ready [4] (by kernel_rfl) (by simp) (AllReadyS.consG (by simp only [List.getElem?_toArray, List.getElem?_cons_succ, List.getElem?_cons_zero]; rfl) (by rfl) (fun K hK => ?_) AllReadyS.nil)
  refine callV (R := fun u w' => ∃ (Al : Option Addr) (cl : Nat), u = .slice Al (pickN bits N).length cl ∧ SlR w' w'.heap.size Al (pickN bits N) ∧ Below wd1.heap.size wd1 w') (by intro c h; cases h) (by go_simp; try with_reducible rfl) ((HPK.out bits wd1).mono (fun e w' ⟨A', c', he, hs, hb⟩ => ⟨_, he, A', c', rfl, hs, hb⟩)) ?_
  rintro u wp ⟨Al, cl, rfl, hsl, hbl⟩
  have BP1 := hid (BD1.out.trans (hbl.mono BD1.out.size))
  have SP1 := hid hsl
  have WP1 := hid (WD1.out.trans (hbl.mono WD1.out.size))
  refine hK.out _ _ BP1.out ?_
  (try simp only [Act.put, List.setIfInBounds_toArray, List.set_cons_zero, List.set_cons_succ])
  clear hK K hHeld hsl hbl
  have hHeld := BP1.out
  refine wpAnyS_ready [5] (by kernel_rfl) (by simp) (AllReadyS.consG (by simp only [List.getElem?_toArray, List.getElem?_cons_succ, List.getElem?_cons_zero]; rfl) (by rfl) (fun K hK => ?_) AllReadyS.nil)
  refine callV (R := fun u w' => ∃ (Al : Option Addr) (cl : Nat) (r : List Int), u = .slice Al r.length cl ∧ LargeL N T false (pickN bits N) r ∧ r.length ≤ cl ∧ cl ≤ maxLen ∧ SlR w' w'.heap.size Al r ∧ Below wp.heap.size wp w') (by intro c h; cases h) (by go_simp; try with_reducible rfl) ((HLG.out false _ Al cl wp BP1.out SP1.out (by have := pickN_len bits N; unfold maxLen; omega)).mono (fun e w' ⟨A', c', r, he, h1, h2, h3, hs, hb⟩ => ⟨_, he, A', c', r, rfl, h1, h2, h3, hs, hb⟩)) ?_
  rintro u wl1 ⟨AL1, cL1, r1, rfl, hlg, hc1, hc2, hsl, hbl⟩
  have BL1 := hid (BP1.out.trans (hbl.mono BP1.out.size))
  have SL1 := hid hsl
  have LG1 := hid hlg
  have LC1 := hid (And.intro hc1 hc2)
  have WL1 := hid (WP1.out.trans (hbl.mono WP1.out.size))
  refine hK.out _ _ BL1.out ?_
  (try simp only [Act.put, List.setIfInBounds_toArray, List.set_cons_zero, List.set_cons_succ])
  clear hK K hHeld hsl hbl hlg hc1 hc2 SP1
  have hHeld := BL1.out
  refine wpAnyG_pure 6 (v := ?_) (fun _ => trivial) (by simp only [List.getElem?_toArray, List.getElem?_cons_succ, List.getElem?_cons_zero]; rfl) (by kernel_rfl) (fun _ _ _ _ _ h => h) ⟨(by rfl), (by intro c h; cases h), ?_⟩ hHeld ?_
  rotate_left
  focus (intro wS hSw; (try replace hSw := HSF.out wS hSw); (try dsimp only at hSw); go_simp; (try with_reducible rfl))
  (try simp only [Act.put, List.setIfInBounds_toArray, List.set_cons_zero, List.set_cons_succ])
  refine wpAnyS_done (by kernel_rfl) ?_
  clear hHeld BP1 BD1 WD1 WP1
  go_upto_region 5 with fail
  have BD2 := hid (BL1.out.drew)
  have WD2 := hid ((Below.refl wl1.heap.size wl1).drew)
  refine wpIn_wide.1 (wpIn_region_S (n := 0) (fun wq => Below w2.heap.size w2 wq) [] (by kernel_rfl) BD2.out (fun hHeld => ?_))
  generalize wl1.drew = wd2 at *
  refine wpAnyG_take 0 (v := ?_) (fun _ => trivial) (by simp only [List.getElem?_toArray, List.getElem?_cons_succ, List.getElem?_cons_zero]; rfl) (by kernel_rfl) (fun _ _ _ _ _ h => h) ⟨(by rfl), (by intro c h; cases h), ?_⟩ hHeld ?_
  rotate_left
  focus (intro wS hSw; (try replace hSw := HSF.out wS hSw); (try dsimp only at hSw); go_simp; (try with_reducible rfl))
  (try simp only [Act.put, List.setIfInBounds_toArray, List.set_cons_zero, List.set_cons_succ])
  refine wpAnyG_pure 1 (v := ?_) (fun _ => trivial) (by simp only [List.getElem?_toArray, List.getElem?_cons_succ, List.getElem?_cons_zero]; rfl) (by kernel_rfl) (fun _ _ _ _ _ h => h) ⟨(by rfl), (by intro c h; cases h), ?_⟩ hHeld ?_
  rotate_left
  focus (intro wS hSw; (try replace hSw := HSF.out wS hSw); (try dsimp only at hSw); go_simp; (try with_reducible rfl))
  (try simp only [Act.put, List.setIfInBounds_toArray, List.set_cons_zero, List.set_cons_succ])
  refine wpAnyG_pure 2 (v := ?_) (fun _ => trivial) (by simp only [List.getElem?_toArray, List.getElem?_cons_succ, List.getElem?_cons_zero]; rfl) (by kernel_rfl) (fun _ _ _ _ _ h => h) ⟨(by rfl), (by intro c h; cases h), ?_⟩ hHeld ?_
  rotate_left
  focus (intro wS hSw; (try replace hSw := HSF.out wS hSw); (try dsimp only at hSw); go_simp; (try with_reducible rfl))
  (try simp only [Act.put, List.setIfInBounds_toArray, List.set_cons_zero, List.set_cons_succ])
  refine wpAnyG_take 3 (v := ?_) (fun _ => trivial) (by simp only [List.getElem?_toArray, List.getElem?_cons_succ, List.getElem?_cons_zero]; rfl) (by kernel_rfl) (fun _ _ _ _ _ h => h) ⟨(by rfl), (by intro c h; cases h), ?_⟩ hHeld ?_
  rotate_left
  focus (intro wS hSw; (try replace hSw := HSF.out wS hSw); (try dsimp only at hSw); go_simp; (try with_reducible rfl))
  (try simp only [Act.put, List.setIfInBounds_toArray, List.set_cons_zero, List.set_cons_succ])
  refine wpAnyS_ready [4] (by kernel_rfl) (by simp) (AllReadyS.consG (by simp only [List.getElem?_toArray, List.getElem?_cons_succ, List.getElem?_cons_zero]; rfl) (by rfl) (fun K hK => ?_) AllReadyS.nil)
  refine callV (R := fun u w' => ∃ (Al : Option Addr) (cl : Nat), u = .slice Al (pickN bits N).length cl ∧ SlR w' w'.heap.size Al (pickN bits N) ∧ Below wd2.heap.size wd2 w') (by intro c h; cases h) (by go_simp; try with_reducible rfl) ((HPK.out bits wd2).mono (fun e w' ⟨A', c', he, hs, hb⟩ => ⟨_, he, A', c', rfl, hs, hb⟩)) ?_
  rintro u wp ⟨Al, cl, rfl, hsl, hbl⟩
  have BP2 := hid (BD2.out.trans (hbl.mono BD2.out.size))
  have SP2 := hid hsl
  have WP2 := hid (WD2.out.trans (hbl.mono WD2.out.size))
  refine hK.out _ _ BP2.out ?_
  (try simp only [Act.put, List.setIfInBounds_toArray, List.set_cons_zero, List.set_cons_succ])
  clear hK K hHeld hsl hbl
  have hHeld := BP2.out
  refine wpAnyS_ready [5] (by kernel_rfl) (by simp) (AllReadyS.consG (by simp only [List.getElem?_toArray, List.getElem?_cons_succ, List.getElem?_cons_zero]; rfl) (by rfl) (fun K hK => ?_) AllReadyS.nil)
  refine callV (R := fun u w' => ∃ (Al : Option Addr) (cl : Nat) (r : List Int), u = .slice Al r.length cl ∧ LargeL N T true (pickN bits N) r ∧ r.length ≤ cl ∧ cl ≤ maxLen ∧ SlR w' w'.heap.size Al r ∧ Below wp.heap.size wp w') (by intro c h; cases h) (by go_simp; try with_reducible rfl) ((HLG.out true _ Al cl wp BP2.out SP2.out (by have := pickN_len bits N; unfold maxLen; omega)).mono (fun e w' ⟨A', c', r, he, h1, h2, h3, hs, hb⟩ => ⟨_, he, A', c', r, rfl, h1, h2, h3, hs, hb⟩)) ?_
  rintro u wl2 ⟨AL2, cL2, r2, rfl, hlg, hc1, hc2, hsl, hbl⟩
  have BL2 := hid (BP2.out.trans (hbl.mono BP2.out.size))
  have SL2 := hid hsl
  have LG2 := hid hlg
  have LC2 := hid (And.intro hc1 hc2)
  have WL2 := hid (WP2.out.trans (hbl.mono WP2.out.size))
  refine hK.out _ _ BL2.out ?_
  (try simp only [Act.put, List.setIfInBounds_toArray, List.set_cons_zero, List.set_cons_succ])
  clear hK K hHeld hsl hbl hlg hc1 hc2 SP2
  have hHeld := BL2.out
  refine wpAnyG_pure 6 (v := ?_) (fun _ => trivial) (by simp only [List.getElem?_toArray, List.getElem?_cons_succ, List.getElem?_cons_zero]; rfl) (by kernel_rfl) (fun _ _ _ _ _ h => h) ⟨(by rfl), (by intro c h; cases h), ?_⟩ hHeld ?_
  rotate_left
  focus (intro wS hSw; (try replace hSw := HSF.out wS hSw); (try dsimp only at hSw); go_simp; (try with_reducible rfl))
  (try simp only [Act.put, List.setIfInBounds_toArray, List.set_cons_zero, List.set_cons_succ])
  refine wpAnyS_done (by kernel_rfl) ?_
  clear hHeld BP2 BD2 WD2 WP2
  have HS1 := hid ((SL1.out.below WL2.out).more WL2.out.size)
  have HS2 := hid (SL2.out)
  have hset1 := hid (large_is (by omega) LG1.out).2
  have hset2 := hid (large_is (by omega) LG2.out).2
  clear SL1 SL2 B3 BL1 WL1 WL2
  have BL5 := hid BL2.out
  clear BL2
  generalize wl2 = w5 at *
  go_upto_region 7 with fail
  go_loopw [1, 12] (fun mv iv wr => ∃ (i : Nat) (B : Option Addr) (d : Nat) (m : List Int), i ≤ l.length ∧ iv = .int .i64 i ∧ mv = .slice B m.length d ∧ markOK ((N : Int), T) m = true ∧ SlR wr wr.heap.size B m ∧ Below w5.heap.size w5 wr) (fun _ iv _ => l.length + 1 - (intOf iv).toNat)
  case atStart => exact ⟨0, A2, d2, m0, by omega, rfl, rfl, HMK.out, ((HM0.out.below (B2.out.trans (BL5.out.mono B2.out.size))).more (B2.out.trans (BL5.out.mono B2.out.size)).size), Below.refl _ _⟩
  case round =>
    obtain ⟨i, B, d, m, hi, rfl, rfl, hmk2, hsm, hB⟩ := hrel
    have hile : (i : Int) ≤ l.length := by omega
    have HMK2 := hid hmk2
    have HMm := hid hsm
    have BRw5 := hid hB
    have BR5 := hid (BL5.out.trans (hB.mono BL5.out.size))
    have BW5 := hid (B2.out.trans (BR5.out.mono B2.out.size))
    have BWr := BW5
    have HSa := hid ((HS1.out.below hB).more hB.size)
    have HSb := hid ((HS2.out.below hB).more hB.size)
    have hml := hid (mark_len hmk2)
    have hm10 : m.length ≤ 10 := by have := mark_len hmk2; omega
    clear hmk2 hsm hB
    go_upto_region 11 with fail
    go_loopw [13, 14] (fun v i wA => ∃ k : Nat, k ≤ r1.length ∧ i = .int .i64 k ∧ v = .bool (emptyN m (r1.take k)) ∧ wr = wA) (fun _ i _ => r1.length - (intOf i).toNat)
    case atStart => exact ⟨0, by omega, rfl, by simp [emptyN], rfl⟩
    case round =>
      obtain ⟨k, hk, rfl, rfl, rfl⟩ := hrel
      by_cases hlt : k < r1.length
      case pos =>
        as_aux_lemma =>
          have hlt' : (k : Int) < r1.length := by omega
          have hsu := hid (emptyN_succ m r1 k hlt)
          have hslen := setB_len hset1.out (by omega)
          have hmem := setB_mem hset1.out _ (List.getElem_mem hlt)
          obtain ⟨q, hq⟩ : ∃ q : Nat, r1[k] = q := ⟨r1[k].toNat, by omega⟩
          obtain ⟨bs, os, hAS, hbs, hcs, -⟩ := HSa.out.int hlt
          rw [hq] at hcs hmem hsu
          have hqm : q < m.length := by have := hml.out; omega
          obtain ⟨bm, om, hBM, hbm, hcm, -⟩ := HMm.out.int hqm
          have hqi : (q : Int) < m.length := by omega
          have hgd := hid (show m.getD (q : Int).toNat 0 = m[q] by rw [Int.toNat_natCast, List.getD_eq_getElem?_getD, List.getElem?_eq_getElem hqm]; rfl)
          rw [hgd.out] at hsu
          subst hAS hBM
          clear hq hmem hgd
          generalize m[q] = x at *
          generalize emptyN m (r1.take k) = b at *
          cases b with
          | false =>
            go_wp2_with fail
            go_roundw
            case rel => exact ⟨k + 1, by omega, by go_num, by rw [hsu.out]; simp, by first | rfl | trivial⟩
            case measure => simp [intOf]; omega
          | true =>
            go_wp2_with fail
            go_roundw
            case rel => exact ⟨k + 1, by omega, by go_num, by rw [hsu.out]; simp [Bool.beq_eq_decide_eq], by first | rfl | trivial⟩
            case measure => simp [intOf]; omega
      case neg =>
        obtain rfl : k = r1.length := by omega
        rw [List.take_length] at *
        clear hk hlt
        generalize hee0 : emptyN m r1 = ee at *
        have HE1 := hid hee0
        clear hee0
        go_upto_region 16 with fail
        go_loopw [15, 16] (fun v i wB => ∃ k : Nat, k ≤ r2.length ∧ i = .int .i64 k ∧ v = .bool (markedN m (r2.take k)) ∧ wr = wB) (fun _ i _ => r2.length - (intOf i).toNat)
        case atStart => exact ⟨0, by omega, rfl, by simp [markedN], rfl⟩
        case round =>
          obtain ⟨k, hk, rfl, rfl, rfl⟩ := hrel
          by_cases hlt : k < r2.length
          case pos =>
            as_aux_lemma =>
              have hlt' : (k : Int) < r2.length := by omega
              have hsu := hid (markedN_succ m r2 k hlt)
              have hslen := setB_len hset2.out (by omega)
              have hmem := setB_mem hset2.out _ (List.getElem_mem hlt)
              obtain ⟨q, hq⟩ : ∃ q : Nat, r2[k] = q := ⟨r2[k].toNat, by omega⟩
              obtain ⟨bs, os, hAS, hbs, hcs, -⟩ := HSb.out.int hlt
              rw [hq] at hcs hmem hsu
              have hqm : q < m.length := by have := hml.out; omega
              obtain ⟨bm, om, hBM, hbm, hcm, -⟩ := HMm.out.int hqm
              have hqi : (q : Int) < m.length := by omega
              have hgd := hid (show m.getD (q : Int).toNat 0 = m[q] by rw [Int.toNat_natCast, List.getD_eq_getElem?_getD, List.getElem?_eq_getElem hqm]; rfl)
              rw [hgd.out] at hsu
              subst hAS hBM
              clear hq hmem hgd
              generalize m[q] = x at *
              generalize markedN m (r2.take k) = b at *
              cases b with
              | true =>
                go_wp2_with fail
                go_roundw
                case rel => exact ⟨k + 1, by omega, by go_num, by rw [hsu.out]; simp, by first | rfl | trivial⟩
                case measure => simp [intOf]; omega
              | false =>
                go_wp2_with fail
                go_roundw
                case rel => exact ⟨k + 1, by omega, by go_num, by rw [hsu.out]; simp, by first | rfl | trivial⟩
                case measure => simp [intOf]; omega
          case neg =>
            obtain rfl : k = r2.length := by omega
            rw [List.take_length] at *
            clear hk hlt
            generalize hef0 : markedN m r2 = ef at *
            have HE2 := hid hef0
            clear hef0
            by_cases hlt : i < l.length
            case neg =>
              obtain rfl : i = l.length := by omega
              as_aux_lemma =>
                have hS37 := hid (fun (W : World) (hW : Below wr.heap.size wr W) => siphon_any (N : Int) A c T AL1 cL1 r1 W hl2.out (HT0.out W (BR5.out.trans (hW.mono BR5.out.size))) (Nat.le_trans LC1.out.1 LC1.out.2) ((HSa.out.below hW).more hW.size) HOK.out)
                have hT37 := hid (fun (W : World) (hW : Below wr.heap.size wr W) => trap_any (N : Int) A c T AL2 cL2 r2 W hl2.out (HT0.out W (BR5.out.trans (hW.mono BR5.out.size))) (Nat.le_trans LC2.out.1 LC2.out.2) ((HSb.out.below hW).more hW.size) HOK.out)
                have hq1 := (large_is (by omega) LG1.out).1
                have hq2 := (large_is (by omega) LG2.out).1
                have HXr := hid (fun (W : World) (hW : Below wr.heap.size wr W) => show W.cell? ⟨w.heap.size, 0, none⟩ = some (.int .i64 (N : Nat)) ∧ W.cell? ⟨w.heap.size, 1, none⟩ = some (.slice A T.length c) ∧ w.heap.size < W.heap.size from
                  ⟨(HSF.out W (BR5.out.trans (hW.mono BR5.out.size))).1, (HSF.out W (BR5.out.trans (hW.mono BR5.out.size))).2, by have h1 := BR5.out.size; have h2 := hW.size; omega⟩)
                have h1l := hid (Nat.le_trans LC1.out.1 LC1.out.2)
                clear LC1 LC2 LG1 LG2 HLG HPK HSa HSb HMm hset1 hset2 HE1 HE2
                obtain ⟨x0, x1, xz⟩ := HXr.out wr (Below.refl _ _)
                by_cases e1z : r1.length = 0
                · have e1i : (r1.length : Int) = 0 := by omega
                  by_cases e2z : r2.length = 0
                  · have e2i : (r2.length : Int) = 0 := by omega
                    go_wp2_with fail
                    go_ret
                    exact ⟨rfl, BW5.out⟩
                  · have e2i : ¬ (r2.length : Int) = 0 := by omega
                    have e2t := hid (hq2.resolve_left e2z)
                    rw [e2t.out] at hT37
                    go_wp2_with fail
                    refine (hT37.out wr (Below.refl _ _)).mono ?_
                    rintro e v1 ⟨rfl, hB⟩
                    have BV := hid (BW5.out.trans (hB.mono BW5.out.size))
                    clear hB
                    go_wp2_with fail
                    go_ret
                    exact ⟨rfl, BV.out⟩
                · have e1i : ¬ (r1.length : Int) = 0 := by omega
                  have e1t := hid (hq1.resolve_left e1z)
                  rw [e1t.out] at hS37
                  by_cases e2z : r2.length = 0
                  · have e2i : (r2.length : Int) = 0 := by omega
                    go_wp2_with fail
                    refine (hS37.out wr (Below.refl _ _)).mono ?_
                    rintro e v1 ⟨rfl, hB⟩
                    have BV := hid (BW5.out.trans (hB.mono BW5.out.size))
                    clear hB
                    go_wp2_with fail
                    go_ret
                    exact ⟨rfl, BV.out⟩
                  · have e2i : ¬ (r2.length : Int) = 0 := by omega
                    have e2t := hid (hq2.resolve_left e2z)
                    rw [e2t.out] at hT37
                    go_wp2_with fail
                    refine (hS37.out wr (Below.refl _ _)).mono ?_
                    rintro e v1 ⟨rfl, hB⟩
                    have BV1 := hid (show Below wr.heap.size wr v1 from hB)
                    clear hB x0 x1 xz
                    obtain ⟨x0, x1, xz⟩ := HXr.out v1 BV1.out
                    go_wp2_with fail
                    refine (hT37.out v1 BV1.out).mono ?_
                    rintro e v2 ⟨rfl, hB⟩
                    have BV := hid (BW5.out.trans ((BV1.out.trans (hB.mono BV1.out.size)).mono BW5.out.size))
                    clear hB
                    go_wp2_with fail
                    go_ret
                    exact ⟨rfl, BV.out⟩
            have HLi := hid hi
            have hii : (i : Int) < l.length := by omega
            obtain ⟨bl, ol, hA4, hbl, hcl, -⟩ := HL.out.int hlt
            have hclr := (bcell BWr.out _ _ hbl).trans hcl
            have hblr : bl < wr.heap.size := by have := BWr.out.size; omega
            subst hA4
            generalize l[i] = q at *
            have y0 := (HSF.out wr BR5.out).1; have y1 := (HSF.out wr BR5.out).2
            have yz : w.heap.size < wr.heap.size := by have := BR5.out.size; omega
            have HSFr := hid (fun (wq : World) (hq : Below wr.heap.size wr wq) => And.intro ((bcell hq _ _ yz).trans y0) (And.intro ((bcell hq _ _ yz).trans y1) ((bcell hq _ _ hblr).trans hclr)))
            have HFR := hid (fun (W : World) (hW : Below wr.heap.size wr W) => fire_any (N : Int) A c T B d m q W hl2.out (HT0.out W (BR5.out.trans (hW.mono BR5.out.size))) ((HMm.out.below hW).more hW.size) HOK.out HMK2.out)
            have hfd0 := hid (fun (h : (fireN N T m q).2 = 0) => fired HOK.out HMK2.out h)
            generalize fireN N T m q = fr at *
            obtain ⟨m', er⟩ := fr
            simp only at hfd0
            clear hcl hclr y0 y1
            have HSF2 := HSF
            clear HSF
            have HSF := HSFr
            clear HSFr
            go_upto_region 20 with fail
            have BD := hid ((Below.refl wr.heap.size wr).drew)
            refine wpIn_wide.1 (wpIn_region_S (n := 0) (fun wq => Below wr.heap.size wr wq) [] (by kernel_rfl) BD.out (fun hHeld => ?_))
            generalize wr.drew = wd at *
            refine wpAnyG_take 0 (v := ?_) (fun _ => trivial) (by simp only [List.getElem?_toArray, List.getElem?_cons_succ, List.getElem?_cons_zero]; rfl) (by kernel_rfl) (fun _ _ _ _ _ h => h) ⟨(by rfl), (by intro c h; cases h), ?_⟩ hHeld ?_
            rotate_left
            focus (intro wS hSw; (try replace hSw := HSF.out wS hSw); (try dsimp only at hSw); go_simp; (try with_reducible rfl))
            (try simp only [Act.put, List.setIfInBounds_toArray, List.set_cons_zero, List.set_cons_succ])
            refine wpAnyG_pure 1 (v := ?_) (fun _ => trivial) (by simp only [List.getElem?_toArray, List.getElem?_cons_succ, List.getElem?_cons_zero]; rfl) (by kernel_rfl) (fun _ _ _ _ _ h => h) ⟨(by rfl), (by intro c h; cases h), ?_⟩ hHeld ?_
            rotate_left
            focus (intro wS hSw; (try replace hSw := HSF.out wS hSw); (try dsimp only at hSw); go_simp; (try with_reducible rfl))
            (try simp only [Act.put, List.setIfInBounds_toArray, List.set_cons_zero, List.set_cons_succ])
            refine wpAnyG_pure 2 (v := ?_) (fun _ => trivial) (by simp only [List.getElem?_toArray, List.getElem?_cons_succ, List.getElem?_cons_zero]; rfl) (by kernel_rfl) (fun _ _ _ _ _ h => h) ⟨(by rfl), (by intro c h; cases h), ?_⟩ hHeld ?_
            rotate_left
            focus (intro wS hSw; (try replace hSw := HSF.out wS hSw); (try dsimp only at hSw); go_simp; (try with_reducible rfl))
            (try simp only [Act.put, List.setIfInBounds_toArray, List.set_cons_zero, List.set_cons_succ])
            refine wpAnyG_pure 3 (v := ?_) (fun _ => trivial) (by simp only [List.getElem?_toArray, List.getElem?_cons_succ, List.getElem?_cons_zero]; rfl) (by kernel_rfl) (fun _ _ _ _ _ h => h) ⟨(by rfl), (by intro c h; cases h), ?_⟩ hHeld ?_
            rotate_left
            focus (intro wS hSw; (try replace hSw := HSF.out wS hSw); (try dsimp only at hSw); go_simp; (try with_reducible rfl))
            (try simp only [Act.put, List.setIfInBounds_toArray, List.set_cons_zero, List.set_cons_succ])
            refine wpAnyG_pure 4 (v := ?_) (fun _ => trivial) (by simp only [List.getElem?_toArray, List.getElem?_cons_succ, List.getElem?_cons_zero]; rfl) (by kernel_rfl) (fun _ _ _ _ _ h => h) ⟨(by rfl), (by intro c h; cases h), ?_⟩ hHeld ?_
            rotate_left
            focus (intro wS hSw; (try replace hSw := HSF.out wS hSw); (try dsimp only at hSw); go_simp; (try with_reducible rfl))
            (try simp only [Act.put, List.setIfInBounds_toArray, List.set_cons_zero, List.set_cons_succ])
            refine wpAnyG_take 5 (v := ?_) (fun _ => trivial) (by simp only [List.getElem?_toArray, List.getElem?_cons_succ, List.getElem?_cons_zero]; rfl) (by kernel_rfl) (fun _ _ _ _ _ h => h) ⟨(by rfl), (by intro c h; cases h), ?_⟩ hHeld ?_
            rotate_left
            focus (intro wS hSw; (try replace hSw := HSF.out wS hSw); (try dsimp only at hSw); go_simp; (try with_reducible rfl))
            (try simp only [Act.put, List.setIfInBounds_toArray, List.set_cons_zero, List.set_cons_succ])
            refine wpAnyS_ready [6] (by kernel_rfl) (by simp) (AllReadyS.consG (by simp only [List.getElem?_toArray, List.getElem?_cons_succ, List.getElem?_cons_zero]; rfl) (by rfl) (fun K hK => ?_) AllReadyS.nil)
            refine callV (R := fun u w' => ∃ (Al : Option Addr) (cl : Nat), u = .tuple #[.slice Al m'.length cl, .int .i64 er] ∧ SlR w' w'.heap.size Al m' ∧ Below wd.heap.size wd w') (by intro c h; cases h) (by go_simp; try with_reducible rfl) ((HFR.out wd BD.out).mono (fun e w' ⟨A', c', he, hs, hb⟩ => ⟨_, he, A', c', rfl, hs, hb⟩)) ?_
            rintro u wf ⟨Al, cl, rfl, hsl, hbl2⟩
            have BF := hid (BD.out.trans (hbl2.mono BD.out.size))
            have HMx := hid hsl
            refine hK.out _ _ BF.out ?_
            (try simp only [Act.put, List.setIfInBounds_toArray, List.set_cons_zero, List.set_cons_succ])
            clear hK K hHeld hsl hbl2
            have hHeld := BF.out
            refine wpAnyG_pure 7 (v := ?_) (fun _ => trivial) (by simp only [List.getElem?_toArray, List.getElem?_cons_succ, List.getElem?_cons_zero]; rfl) (by kernel_rfl) (fun _ _ _ _ _ h => h) ⟨(by rfl), (by intro c h; cases h), ?_⟩ hHeld ?_
            rotate_left
            focus (intro wS hSw; (try replace hSw := HSF.out wS hSw); (try dsimp only at hSw); go_simp; (try with_reducible rfl))
            (try simp only [Act.put, List.setIfInBounds_toArray, List.set_cons_zero, List.set_cons_succ])
            refine wpAnyG_pure 8 (v := ?_) (fun _ => trivial) (by simp only [List.getElem?_toArray, List.getElem?_cons_succ, List.getElem?_cons_zero]; rfl) (by kernel_rfl) (fun _ _ _ _ _ h => h) ⟨(by rfl), (by intro c h; cases h), ?_⟩ hHeld ?_
            rotate_left
            focus (intro wS hSw; (try replace hSw := HSF.out wS hSw); (try dsimp only at hSw); go_simp; (try with_reducible rfl))
            (try simp only [Act.put, List.setIfInBounds_toArray, List.set_cons_zero, List.set_cons_succ])
            refine wpAnyG_pure 10 (v := ?_) (fun _ => trivial) (by simp only [List.getElem?_toArray, List.getElem?_cons_succ, List.getElem?_cons_zero]; rfl) (by kernel_rfl) (fun _ _ _ _ _ h => h) ⟨(by rfl), (by intro c h; cases h), ?_⟩ hHeld ?_
            rotate_left
            focus (intro wS hSw; (try replace hSw := HSF.out wS hSw); (try dsimp only at hSw); go_simp; (try with_reducible rfl))
            (try simp only [Act.put, List.setIfInBounds_toArray, List.set_cons_zero, List.set_cons_succ])
            refine wpAnyG_pure 9 (v := ?_) (fun _ => trivial) (by simp only [List.getElem?_toArray, List.getElem?_cons_succ, List.getElem?_cons_zero]; rfl) (by kernel_rfl) (fun _ _ _ _ _ h => h) ⟨(by rfl), (by intro c h; cases h), ?_⟩ hHeld ?_
            rotate_left
            focus (intro wS hSw; (try replace hSw := HSF.out wS hSw); (try dsimp only at hSw); go_simp; (try with_reducible rfl))
            (try simp only [Act.put, List.setIfInBounds_toArray, List.set_cons_zero, List.set_cons_succ])
            refine wpAnyG_pure 11 (v := ?_) (fun _ => trivial) (by simp only [List.getElem?_toArray, List.getElem?_cons_succ, List.getElem?_cons_zero]; rfl) (by kernel_rfl) (fun _ _ _ _ _ h => h) ⟨(by rfl), (by intro c h; cases h), ?_⟩ hHeld ?_
            rotate_left
            focus (intro wS hSw; (try replace hSw := HSF.out wS hSw); (try dsimp only at hSw); go_simp; (try with_reducible rfl))
            (try simp only [Act.put, List.setIfInBounds_toArray, List.set_cons_zero, List.set_cons_succ])
            refine wpAnyS_done (by kernel_rfl) ?_
            clear hHeld HSF BD HFR
            have HSF := HSF2
            clear HSF2
            have BF5 := hid (BR5.out.trans (BF.out.mono BR5.out.size))
            have BFw5 := hid (BRw5.out.trans (BF.out.mono BRw5.out.size))
            have HSa' := hid ((HSa.out.below BF.out).more BF.out.size)
            have HSb' := hid ((HSb.out.below BF.out).more BF.out.size)
            have HMy := hid ((HMm.out.below BF.out).more BF.out.size)
            by_cases her : er = 0
            case neg =>
              as_aux_lemma =>
                go_wp2_with fail
                go_roundw
                case rel => exact ⟨i + 1, B, d, m, by omega, by go_num, rfl, HMK2.out, HMy.out, BFw5.out⟩
                case measure => simp [intOf]; omega
            subst her
            obtain ⟨t, hfd1⟩ := hfd0.out rfl
            have hfd := hid hfd1
            have hmlx := hid hfd1.len
            have HMm' := HMK2
            clear hfd0 hfd1
            have z0 := (HSF.out wf BF5.out).1
            have zz : w.heap.size < wf.heap.size := by have := BF5.out.size; omega
            have hmi : (m'.length : Int) = N := by have := hmlx.out; omega
            have hmi2 := hid hmi
            have hmb : m'.length ≤ 10 := by omega
            go_upto_region 26 with fail
            go_loopw [19, 20] (fun v i wC => ∃ k : Nat, k ≤ r1.length ∧ i = .int .i64 k ∧ v = .bool (emptyN m' (r1.take k)) ∧ wf = wC) (fun _ i _ => r1.length - (intOf i).toNat)
            case atStart => exact ⟨0, by omega, rfl, by simp [emptyN], rfl⟩
            case round =>
              obtain ⟨k, hk, rfl, rfl, rfl⟩ := hrel
              by_cases hlt : k < r1.length
              case pos =>
                as_aux_lemma =>
                  have hlt' : (k : Int) < r1.length := by omega
                  have hsu := hid (emptyN_succ m' r1 k hlt)
                  have hslen := setB_len hset1.out (by omega)
                  have hmem := setB_mem hset1.out _ (List.getElem_mem hlt)
                  obtain ⟨q, hq⟩ : ∃ q : Nat, r1[k] = q := ⟨r1[k].toNat, by omega⟩
                  obtain ⟨bs, os, hAS, hbs, hcs, -⟩ := HSa'.out.int hlt
                  rw [hq] at hcs hmem hsu
                  have hqm : q < m'.length := by have := hmlx.out; omega
                  obtain ⟨bm, om, hBM, hbm, hcm, -⟩ := HMx.out.int hqm
                  have hqi : (q : Int) < m'.length := by omega
                  have hgd := hid (show m'.getD (q : Int).toNat 0 = m'[q] by rw [Int.toNat_natCast, List.getD_eq_getElem?_getD, List.getElem?_eq_getElem hqm]; rfl)
                  rw [hgd.out] at hsu
                  subst hAS hBM
                  clear hq hmem hgd
                  generalize m'[q] = x at *
                  generalize emptyN m' (r1.take k) = b at *
                  cases b with
                  | false =>
                    go_wp2_with fail
                    go_roundw
                    case rel => exact ⟨k + 1, by omega, by go_num, by rw [hsu.out]; simp, by first | rfl | trivial⟩
                    case measure => simp [intOf]; omega
                  | true =>
                    go_wp2_with fail
                    go_roundw
                    case rel => exact ⟨k + 1, by omega, by go_num, by rw [hsu.out]; simp [Bool.beq_eq_decide_eq], by first | rfl | trivial⟩
                    case measure => simp [intOf]; omega
              case neg =>
                obtain rfl : k = r1.length := by omega
                rw [List.take_length] at *
                clear hk hlt
                generalize hef : emptyN m' r1 = sf at *
                have HE3 := hid (show ee = true → sf = true from fun he => by rw [← hef]; exact keep_siphon (by omega) HOK.out LG1.out hfd.out (by rw [HE1.out]; exact he))
                clear hef
                go_upto_region 31 with fail
                go_loopw [21, 22] (fun v i wD => ∃ k : Nat, k ≤ r2.length ∧ i = .int .i64 k ∧ v = .bool (markedN m' (r2.take k)) ∧ wf = wD) (fun _ i _ => r2.length - (intOf i).toNat)
                case atStart => exact ⟨0, by omega, rfl, by simp [markedN], rfl⟩
                case round =>
                  obtain ⟨k, hk, rfl, rfl, rfl⟩ := hrel
                  by_cases hlt : k < r2.length
                  case pos =>
                    as_aux_lemma =>
                      have hlt' : (k : Int) < r2.length := by omega
                      have hsu := hid (markedN_succ m' r2 k hlt)
                      have hslen := setB_len hset2.out (by omega)
                      have hmem := setB_mem hset2.out _ (List.getElem_mem hlt)
                      obtain ⟨q, hq⟩ : ∃ q : Nat, r2[k] = q := ⟨r2[k].toNat, by omega⟩
                      obtain ⟨bs, os, hAS, hbs, hcs, -⟩ := HSb'.out.int hlt
                      rw [hq] at hcs hmem hsu
                      have hqm : q < m'.length := by have := hmlx.out; omega
                      obtain ⟨bm, om, hBM, hbm, hcm, -⟩ := HMx.out.int hqm
                      have hqi : (q : Int) < m'.length := by omega
                      have hgd := hid (show m'.getD (q : Int).toNat 0 = m'[q] by rw [Int.toNat_natCast, List.getD_eq_getElem?_getD, List.getElem?_eq_getElem hqm]; rfl)
                      rw [hgd.out] at hsu
                      subst hAS hBM
                      clear hq hmem hgd
                      generalize m'[q] = x at *
                      generalize markedN m' (r2.take k) = b at *
                      cases b with
                      | true =>
                        go_wp2_with fail
                        go_roundw
                        case rel => exact ⟨k + 1, by omega, by go_num, by rw [hsu.out]; simp, by first | rfl | trivial⟩
                        case measure => simp [intOf]; omega
                      | false =>
                        go_wp2_with fail
                        go_roundw
                        case rel => exact ⟨k + 1, by omega, by go_num, by rw [hsu.out]; simp, by first | rfl | trivial⟩
                        case measure => simp [intOf]; omega
                  case neg =>
                    obtain rfl : k = r2.length := by omega
                    rw [List.take_length] at *
                    clear hk hlt
                    generalize hkf : markedN m' r2 = kf at *
                    have HE4 := hid (show ef = true → kf = true from fun he => by rw [← hkf]; exact keep_trap (by omega) HOK.out HMm'.out LG2.out hfd.out (by rw [HE2.out]; exact he))
                    clear hkf HE1 HE2 HSa' HSb' hmlx HMm HSa HSb HMy LG1 LG2 HLG HPK LC1 LC2
                    have H3 := HE3.out
                    have H4 := HE4.out
                    have HMO := hid hfd.out.ok
                    clear HE3 HE4 hfd
                    cases ee <;> cases sf <;> cases ef <;> cases kf <;> first
                      | (exfalso; have := H3 rfl; cases this; done)
                      | (exfalso; have := H4 rfl; cases this; done)
                      | (clear H3 H4
                         go_wp2_with fail
                         go_roundw
                         case rel => exact ⟨i + 1, Al, cl, m', by omega, by go_num, rfl, HMO.out, HMx.out, BFw5.out⟩
                         case measure => simp [intOf]; omega)
end Go.Proofs.YtbbogflibekgfaaDoor
