
/- Journal: JournalLasts, the walk. -/
import Derived.Test.YtbefmjodpndndaaDoorJoH
set_option linter.unusedSimpArgs false
set_option linter.unusedVariables false
namespace Go.Proofs.YtbefmjodpndndaaDoor
open Go.RowKit Go.IntWalk

/-- What the files may say: the list that is sure, or, where a call failed, what that call would have left. -/
def Two (sure maybe : List ByteArray) (failed : Bool) (x : List ByteArray) : Prop := x = sure ∨ (failed = true ∧ x = maybe)
set_option maxRecDepth 100000 in
set_option maxHeartbeats 4000000 in
theorem jlasts_any (A1 A2 : Option Addr) (c1 c2 : Nat) (l : List Jop) (kp0 : List Int) (w : World) (hl : l.length ≤ maxLen) (hk1 : kp0.length ≤ maxLen) (hs1 : SlR w w.heap.size A1 l) (hs2 : SlR w w.heap.size A2 kp0) (he : Env w) (hO : OffE w) :
    Calls Tryd.prog 6 #[.slice A1 l.length c1, .slice A2 kp0.length c2] w fun e w' => e = .returned (.bool true) ∧ Below w.heap.size w w' := by
  have HSM := hid (jsmall_any w he hO)
  have HEB := hid (EB.of he hO)
  have HS1 := hid hs1; have HS2 := hid hs2
  have hl' := hl; have hk1' := hk1
  unfold maxLen at hl' hk1'
  have HL := hid (And.intro hl hk1)
  clear he hO hs1 hs2 hl hk1
  go_enter Tryd.func6, Tryd.ntmps6
  go_wp2_with fail
  refine HSM.out.mono ?_
  rintro e w1 ⟨rfl, hB⟩
  have B1 := hid hB
  have HF := fewJ_any A1 c1 l w1 HL.out.1 ((HS1.out.below hB).more hB.size)
  obtain ⟨rf, hrf⟩ : ∃ r, r = fewJ l := ⟨_, rfl⟩
  rw [← hrf] at HF
  have HF := hid HF; have HRF := hid hrf
  clear hrf hB HSM
  cases rf with
  | false =>
    go_wp2_with fail
    refine HF.out.mono ?_
    rintro e w2 ⟨rfl, rfl⟩
    go_wp2_with fail
    go_ret
    exact ⟨rfl, B1.out⟩
  | true =>
  by_cases h50a : 50 < kp0.length
  · have hI : (50 : Int) < (kp0.length : Int) := by omega
    go_wp2_with fail
    refine HF.out.mono ?_
    rintro e w2 ⟨rfl, rfl⟩
    go_wp2_with fail
    go_ret
    exact ⟨rfl, B1.out⟩
  have hI1 : ¬ (50 : Int) < (kp0.length : Int) := by omega
  have hkl : kp0.length ≤ 50 := by omega
  have HKL := hid hkl
  have HFW := hid (fewJ_iff.1 HRF.out.symm)
  clear h50a hkl HRF
  go_wp2_with fail
  refine HF.out.mono ?_
  rintro e w2 ⟨rfl, rfl⟩
  go_wp2_with fail
  refine (dnew_any w1).mono ?_
  rintro e w2 ⟨b, L0, rfl, hD, hB⟩
  have J0 := hid (show JD w w2 b 3 (fun x => x = []) 0 [] (fun s => s = ds0) from ⟨L0, ds0, ⟨hD.low_ B1.out.size, B1.out.trans (hB.mono B1.out.size), HEB.out.below (B1.out.trans (hB.mono B1.out.size)), safe_new 3⟩, fun r h => (by cases h), rfl⟩)
  clear hD hB HF B1 hI1
  go_wp2_with fail
  refine (jd_open J0.out (fun s h => by rw [h]; rfl) (by omega) (by omega) (fun l h => by rw [h]; exact Bd.nil _) (by omega)).mono ?_
  rintro e w3 ⟨jv, ec, rfl, -, hres⟩
  rcases hres with ⟨_, _, h, _⟩ | ⟨jk, l0, rfl, rfl, hl0, h⟩
  · exact absurd (fun s h => by rw [h]; exact calm_new) h
  subst hl0
  have K3 := hid (show JQ w w3 b 3 (Two [] [] false) (fun x => x = []) 2 [(nilS, []), (nilS, [])] (.pointer (some ⟨jk, 0, none⟩)) from by
    have h1 := h.jq
    have h2 : ∀ r ∈ [(nilS, ([] : List ByteArray)), (nilS, [])], r.1 = nilS ∧ r.2 = [] := by simp
    obtain ⟨L, s, k1, k2⟩ := h1
    refine ⟨L, s, ⟨k1.D, k1.B, k1.E, k1.S.mono (fun x h => .inl h)⟩, ?_⟩
    rcases k2 with ⟨k3, _⟩ | ⟨jk', cb, v, l, slot, cv, u, br, k3, k4, k5, k6, _⟩
    · cases k3
    · refine .inr ⟨jk', cb, v, l, slot, cv, u, br, k3, k4, k5, k6, fun r hr => ?_⟩
      obtain ⟨e1, e2⟩ := h2 r hr
      rw [e1, e2]
      exact ⟨RK.Own.nil, fun g hg => absurd hg (nilS_own g)⟩)
  clear h J0
  go_wp2_with fail
  go_loopw [7, 9, 10, 11, 12, 13, 14, 15, 16] (fun jv sv mv fv iv _ _ _ _ wr => ∃ (k N : Nat) (sure maybe : List ByteArray) (failed : Bool), k ≤ l.length + 1 ∧ iv = .int .i64 (k : Nat) ∧ fv = .bool failed ∧ N ≤ 2 + 4002 * k ∧ Bd (8 * k) sure ∧ Bd (8 * k) maybe ∧ JQ w wr b 3 (Two sure maybe failed) (fun x => x = sure) N [(sv, sure), (mv, maybe)] jv) (fun _ _ _ _ iv _ _ _ _ _ => l.length + 1 - (intOf iv).toNat)
  case atStart => exact ⟨0, 2, [], [], false, by omega, rfl, rfl, by omega, Bd.nil _, Bd.nil _, K3.out⟩
  case round =>
    clear K3
    obtain ⟨k, N, sure, maybe, failed, hk, rfl, rfl, hN, hbs, hbm, hQ⟩ := hrel
    have HQ := hid hQ
    have HJV := hid hQ.jv_
    have HB := hid hQ.low
    have HBS := hid hbs; have HBM := hid hbm
    have hl25 := HFW.out.2
    have hr1 := hQ.rows_ _ (List.mem_cons_self ..)
    have hr2 := hQ.rows_ _ (List.mem_cons_of_mem _ (List.mem_cons_self ..))
    simp only at hr1 hr2
    obtain ⟨As, cs, e1⟩ := hr1.form
    obtain ⟨Am, cm, e2⟩ := hr2.form
    subst e1 e2
    have hsl := hbs.1
    have hml := hbm.1
    clear hQ hbs hbm hr1 hr2
    by_cases hlt : k < l.length
    case pos =>
      have hltI : (k : Int) < (l.length : Int) := by omega
      have hleI : (k : Int) ≤ (l.length : Int) := by omega
      obtain ⟨g, off, a1, d1, a2, d2, rfl, hg, q0, q1, q2, q3, i0, i2, m1, m2, s1, s2⟩ := HS1.out.jop hlt
      replace q0 := (bcell HB.out g _ hg).trans q0
      replace q1 := (bcell HB.out g _ hg).trans q1
      replace q2 := (bcell HB.out g _ hg).trans q2
      replace q3 := (bcell HB.out g _ hg).trans q3
      have hgw := Nat.lt_of_lt_of_le hg HB.out.size
      have HFO := hid (HFW.out.1 _ (List.getElem_mem hlt))
      generalize l[k] = o at *
      obtain ⟨kd, L1, n, kp⟩ := o
      simp only at q0 q1 q2 q3 i0 i2 m1 m2 s1 s2
      have HSL := hid s1; have HSK := hid s2; have HI2 := hid i2
      have HBL := hid (show Bd 8 L1 from by have := textsL_iff.1 HFO.out.1; exact ⟨this.2, this.1⟩)
      have HBK := hid (show kp.length ≤ 50 from HFO.out.2)
      unfold maxLen at m1 m2
      clear s1 s2 i0 i2 hlt
      go_upto_region 18 with fail
      obtain ⟨w4, hw4⟩ : ∃ w4, w4 = wr.alloc (Obj.cells #[Value.int .i64 4, Value.slice none 0 0, Value.int .i64 0, Value.slice A2 kp0.length c2] 49) := ⟨_, rfl⟩
      obtain ⟨gx, hgx⟩ : ∃ gx, gx = wr.heap.size := ⟨_, rfl⟩
      have B4 := hid (show Below wr.heap.size wr w4 by rw [hw4]; (repeat (first | exact Below.refl _ _ | assumption | refine below_drewN ?_ _ | refine Below.drew ?_ | refine Below.alloc ?_ (by (try simp); (try omega)) _ | refine Below.setCell ?_ (by (try simp); (try omega)) _)))
      have X4 := hid (show Blk w4 gx 49 #[Value.int .i64 4, Value.slice none 0 0, Value.int .i64 0, Value.slice A2 kp0.length c2] by rw [hw4, hgx]; exact Blk.new wr _ _)
      rw [← hw4, ← hgx]
      replace q0 := (bcell B4.out g _ hgw).trans q0
      replace q1 := (bcell B4.out g _ hgw).trans q1
      replace q2 := (bcell B4.out g _ hgw).trans q2
      replace q3 := (bcell B4.out g _ hgw).trans q3
      have hgw4 := Nat.lt_of_lt_of_le hgw B4.out.size
      have hne := hid (show g ≠ gx by omega)
      have HGX := hid (show wr.heap.size ≤ gx by omega)
      clear hw4 hgx
      have x0 := X4.out.cell 0; have x1 := X4.out.cell 1; have x2 := X4.out.cell 2; have x3 := X4.out.cell 3; have xl := X4.out.lt; have xf := X4.out.frozen
      simp at x0 x1 x2 x3
      have B5 := hid (show Below wr.heap.size wr ((((w4.setCell ⟨gx, 0, none⟩ (.int .i64 kd)).setCell ⟨gx, 1, none⟩ (.slice a1 L1.length d1)).setCell ⟨gx, 2, none⟩ (.int .i64 n)).setCell ⟨gx, 3, none⟩ (.slice a2 kp.length d2)) from (((B4.out.setCell (p := ⟨gx, 0, none⟩) HGX.out _).setCell (p := ⟨gx, 1, none⟩) HGX.out _).setCell (p := ⟨gx, 2, none⟩) HGX.out _).setCell (p := ⟨gx, 3, none⟩) HGX.out _)
      have X5 := hid (show Blk ((((w4.setCell ⟨gx, 0, none⟩ (.int .i64 kd)).setCell ⟨gx, 1, none⟩ (.slice a1 L1.length d1)).setCell ⟨gx, 2, none⟩ (.int .i64 n)).setCell ⟨gx, 3, none⟩ (.slice a2 kp.length d2)) gx 49 #[.int .i64 kd, .slice a1 L1.length d1, .int .i64 n, .slice a2 kp.length d2] by simpa using (((X4.out.set_ 0 (.int .i64 kd)).set_ 1 (.slice a1 L1.length d1)).set_ 2 (.int .i64 n)).set_ 3 (.slice a2 kp.length d2))
      have HQ5 := hid (HQ.out.below B5.out)
      go_upto_region 21 with fail
      clear x0 x1 x2 x3 xl xf q0 q1 q2 q3 hgw4 hne
      generalize ((((w4.setCell ⟨gx, 0, none⟩ (.int .i64 kd)).setCell ⟨gx, 1, none⟩ (.slice a1 L1.length d1)).setCell ⟨gx, 2, none⟩ (.int .i64 n)).setCell ⟨gx, 3, none⟩ (.slice a2 kp.length d2)) = w5 at *
      clear X4 B4 B5 HQ
      have x0 := X5.out.cell 0; have x1 := X5.out.cell 1; have x2 := X5.out.cell 2; have x3 := X5.out.cell 3; have xl := X5.out.lt; have xf := X5.out.frozen
      simp at x0 x1 x2 x3
      have HOKS := hid HBS.out.max_
      by_cases h0 : kd = 0
      · subst h0
        rcases HJV.out with rfl | ⟨jk, rfl⟩
        · as_aux_lemma =>
            go_wp2_with fail
            go_roundw
            case rel => exact ⟨k + 1, N, sure, maybe, failed, by omega, by go_num, rfl, by omega, HBS.out.mono (by omega), HBM.out.mono (by omega), HQ5.out.mono (by omega) (fun _ h => h) (fun _ h => h)⟩
            case measure => simp [intOf]; (try omega)
        · as_aux_lemma =>
            go_upto_region 25 with fail
            clear x0 x1 x2 x3 xl xf
            have hSX : w5.drew.cell? ⟨gx, 1, none⟩ = some (.slice a1 L1.length d1) ∧ gx < w5.drew.heap.size := ⟨X5.out.cell 1, X5.out.lt⟩
            have HSF := hid (fun (wq : World) (hq : wq.cell? ⟨gx, 1, none⟩ = some (.slice a1 L1.length d1) ∧ gx < wq.heap.size) => hq)
            refine wpIn_wide.1 (wpIn_region_S (n := 0) (fun wq => wq.cell? ⟨gx, 1, none⟩ = some (.slice a1 L1.length d1) ∧ gx < wq.heap.size) [] (by kernel_rfl) hSX (fun hHeld => ?_))
            clear hSX
            have Bd5 := hid (show Below w5.heap.size w5 w5.drew from (Below.refl _ w5).drew)
            have HQd := hid (HQ5.out.below Bd5.out)
            have Xd := hid X5.out.drew
            have hwd := hid (show w5.heap.size ≤ w5.drew.heap.size from Nat.le_refl _)
            generalize w5.drew = wd at *
            refine wpAnyS_pure 1 (v := ?_) (fun _ => trivial) (by simp only [List.getElem?_toArray, List.getElem?_cons_succ, List.getElem?_cons_zero]; rfl) (by kernel_rfl) (fun _ _ _ _ _ h => h) ⟨rfl, (by intro c h; cases h), ?_⟩ hHeld ?_
            rotate_left
            focus (intro wS hSw; (try replace hSw := HSF.out wS hSw); (try dsimp only at hSw); go_simp; (try with_reducible rfl))
            (try simp only [Act.put, List.setIfInBounds_toArray, List.set_cons_zero, List.set_cons_succ])
            refine wpAnyS_pure 3 (v := ?_) (fun _ => trivial) (by simp only [List.getElem?_toArray, List.getElem?_cons_succ, List.getElem?_cons_zero]; rfl) (by kernel_rfl) (fun _ _ _ _ _ h => h) ⟨rfl, (by intro c h; cases h), ?_⟩ hHeld ?_
            rotate_left
            focus (intro wS hSw; (try replace hSw := HSF.out wS hSw); (try dsimp only at hSw); go_simp; (try with_reducible rfl))
            (try simp only [Act.put, List.setIfInBounds_toArray, List.set_cons_zero, List.set_cons_succ])
            refine wpAnyS_take 4 (v := ?_) (fun _ => trivial) (by simp only [List.getElem?_toArray, List.getElem?_cons_succ, List.getElem?_cons_zero]; rfl) (by kernel_rfl) (fun _ _ _ _ _ h => h) ⟨rfl, (by intro c h; cases h), ?_⟩ hHeld ?_
            rotate_left
            focus (intro wS hSw; (try replace hSw := HSF.out wS hSw); (try dsimp only at hSw); go_simp; (try with_reducible rfl))
            (try simp only [Act.put, List.setIfInBounds_toArray, List.set_cons_zero, List.set_cons_succ])
            refine wpAnyS_ready [0] (by kernel_rfl) (by simp) (AllReadyS.cons (by simp only [List.getElem?_toArray, List.getElem?_cons_succ, List.getElem?_cons_zero]; rfl) rfl (fun K hK => ?_) AllReadyS.nil)
            go_simp
            have B6 := hid (show Below wd.heap.size wd (wd.alloc (Obj.cells #[] 9)) by (repeat (first | exact Below.refl _ _ | assumption | refine below_drewN ?_ _ | refine Below.drew ?_ | refine Below.alloc ?_ (by (try simp); (try omega)) _ | refine Below.setCell ?_ (by (try simp); (try omega)) _)))
            have O6 := hid (show strRK.Own (wd.alloc (Obj.cells #[] 9)) wd.heap.size (.slice (some ⟨wd.heap.size, 0, none⟩) 0 0) [] from RK.Own.fresh (l := []) (Blk.new wd _ _) (Nat.le_refl _) (by simp))
            have X6 := hid (Xd.out.below B6.out Xd.out.lt)
            refine hK.out _ _ ⟨X6.out.cell 1, X6.out.lt⟩ ?_
            (try simp only [Act.put, List.setIfInBounds_toArray, List.set_cons_zero, List.set_cons_succ])
            clear hK K hHeld
            have hHeld : (wd.alloc (Obj.cells #[] 9)).cell? ⟨gx, 1, none⟩ = some (.slice a1 L1.length d1) ∧ gx < (wd.alloc (Obj.cells #[] 9)).heap.size := ⟨X6.out.cell 1, X6.out.lt⟩
            have hgd := hid Xd.out.lt
            have hb6 := hid B6.out.size
            have HQ6 := hid (HQd.out.below B6.out)
            generalize wd.alloc (Obj.cells #[] 9) = w6 at *
            generalize hgz : wd.heap.size = gz at *
            have HGZ := hid hgz
            clear hgz
            have hro := HQ6.out.rows_ _ (List.mem_cons_self ..)
            simp only at hro
            have SS6 := hid (own_slr hro HOKS.out)
            clear hro
            refine wpAnyS_ready [2] (by kernel_rfl) (by simp) (AllReadyS.cons (by simp only [List.getElem?_toArray, List.getElem?_cons_succ, List.getElem?_cons_zero]; rfl) rfl (fun K hK => ?_) AllReadyS.nil)
            refine row_appS (fun _ => trivial) (.tmp 64) (.tmp 65) rfl rfl O6.out (by simp) rfl SS6.out (by simp; omega) hb6.out ?_
            intro A7 c7 w7 hO7 hg7 hl7
            have L7 := hid (show ∀ g, (Value.slice A7 (([] : List ByteArray).length + sure.length) c7).ownBlock = some g → some gz = some g ∨ w6.heap.size ≤ g from fun g h => hl7 g h)
            simp only [List.length_nil, Nat.zero_add, List.nil_append] at hO7 L7 ⊢
            have O7 := hid hO7
            have G7 := hid (show w6.grownBy w7 (some gz) from hg7)
            have B7 := hid (show Below gz wd w7 from B6.out.grown G7.out hb6.out (fun q e => by injection e with e; omega))
            have X7 := hid (X6.out.grown G7.out (fun e => by injection e with e; have := hgd.out; omega))
            refine hK.out _ _ ⟨X7.out.cell 1, X7.out.lt⟩ ?_
            (try simp only [Act.put, List.setIfInBounds_toArray, List.set_cons_zero, List.set_cons_succ])
            clear hK K hHeld hO7 hg7 hl7
            have hHeld : w7.cell? ⟨gx, 1, none⟩ = some (.slice a1 L1.length d1) ∧ gx < w7.heap.size := ⟨X7.out.cell 1, X7.out.lt⟩
            have hb7 := hid (show gz ≤ w7.heap.size from B7.out.size |> fun h => by have := HGZ.out; omega)
            have SL7 := hid (show SlR w7 w7.heap.size a1 L1 from by
              have hlow := (HQd.out.low).trans (B7.out.mono (by have := HGZ.out; have := HQd.out.low.size; omega))
              exact (HSL.out.below hlow).more hlow.size)
            refine wpAnyS_ready [5] (by kernel_rfl) (by simp) (AllReadyS.cons (by simp only [List.getElem?_toArray, List.getElem?_cons_succ, List.getElem?_cons_zero]; rfl) rfl (fun K hK => ?_) AllReadyS.nil)
            refine row_appS (fun _ => trivial) (.tmp 66) (.tmp 68) rfl rfl O7.out HOKS.out rfl SL7.out (by have := HBL.out.1; omega) hb7.out ?_
            intro A8 c8 w8 hO8 hg8 hl8
            obtain ⟨nx, hnx⟩ : ∃ nx, nx = sure ++ L1 := ⟨_, rfl⟩
            have hlen : sure.length + L1.length = nx.length := by rw [hnx, List.length_append]
            rw [hlen]
            rw [hlen, ← hnx] at hO8
            have HNX := hid hnx
            have G8 := hid (show w7.grownBy w8 (Value.slice A7 sure.length c7).ownBlock from hg8)
            have B8 := hid (show Below gz wd w8 from B7.out.grown G8.out hb7.out (fun q e => by
              rcases L7.out q e with h | h
              · injection h with h; omega
              · have := hb6.out; omega))
            have X8 := hid (X7.out.grown G8.out (fun e => by
              rcases L7.out gx e.symm with h | h
              · injection h with h; have := hgd.out; omega
              · have := hb6.out; have := hgd.out; omega))
            have HQ8 := hid (HQd.out.row (by have := HGZ.out; subst this; exact B8.out) (by have := HGZ.out; subst this; exact hO8))
            refine hK.out _ _ ⟨X8.out.cell 1, X8.out.lt⟩ ?_
            (try simp only [Act.put, List.setIfInBounds_toArray, List.set_cons_zero, List.set_cons_succ])
            clear hK K hHeld hO8 hg8 hl8 hnx
            have hHeld : w8.cell? ⟨gx, 1, none⟩ = some (.slice a1 L1.length d1) ∧ gx < w8.heap.size := ⟨X8.out.cell 1, X8.out.lt⟩
            refine wpAnyS_pure 6 (v := ?_) (fun _ => trivial) (by simp only [List.getElem?_toArray, List.getElem?_cons_succ, List.getElem?_cons_zero]; rfl) (by kernel_rfl) (fun _ _ _ _ _ h => h) ⟨rfl, (by intro c h; cases h), ?_⟩ hHeld ?_
            rotate_left
            focus (intro wS hSw; (try replace hSw := HSF.out wS hSw); (try dsimp only at hSw); go_simp; (try with_reducible rfl))
            (try simp only [Act.put, List.setIfInBounds_toArray, List.set_cons_zero, List.set_cons_succ])
            refine wpAnyS_done (by kernel_rfl) ?_
            clear hHeld HSF B6 B7 B8 O6 O7 L7 G7 G8 X6 X7 SS6 SL7 HQ6 HQd Xd hlen Bd5 hb6 hb7 hgd HGZ hwd
            have HBN := hid (show Bd (8 * (k + 1)) nx from by rw [HNX.out]; exact (HBS.out.app HBL.out).mono (by omega))
            have HOKN := hid HBN.out.max_
            have hnl := HBN.out.1
            have x0 := X8.out.cell 0; have x1 := X8.out.cell 1; have xl := X8.out.lt
            simp at x0 x1
            have HC := hid (jq_append HQ8.out ⟨by omega, by omega⟩ a1 d1 L1 HSL.out HBL.out (fun x e => by rw [e]; exact HBS.out) (by omega) (by omega))
            go_wp2_with fail
            refine HC.out.mono ?_
            rintro e w9 ⟨ec, l0, rfl, -, hl0, hres⟩
            rw [show l0 = sure from hl0] at hres
            clear hl0 l0 HC x0 x1 xl X8 HQ8
            rcases hres with ⟨rfl, h⟩ | ⟨h0, h1, h⟩ | ⟨h0, h1, h2, h⟩
            · as_aux_lemma =>
                have HX := hid (show JQ w w9 b 3 (fun x => x = nx) (fun x => x = nx) (N + 4000) [(.slice A8 nx.length c8, nx), (.slice As sure.length cs, sure), (.slice Am maybe.length cm, maybe)] (.pointer (some ⟨jk, 0, none⟩)) from by have h9 := h.jq; rwa [← HNX.out] at h9)
                have HDK := hid (show Calls Tryd.prog 28 #[.int .i64 0] w9 fun r w' => r = .returned (.bool false) ∧ w9 = w' from disky_any 0 w9)
                clear h
                go_wp2_with fail
                refine HDK.out.mono ?_
                rintro e wD ⟨rfl, rfl⟩
                clear HDK
                have hro := HX.out.rows_ _ (List.mem_cons_self ..)
                simp only at hro
                have HRO := hid hro
                have HAL := hid (jq_all HX.out (by omega))
                clear hro
                go_wp2_with fail
                refine HAL.out.mono ?_
                rintro e wA ⟨gc, rfl, hO, hQA, hB⟩
                have HQA := hid hQA
                have hsm := same_rows hO (HRO.out.below hB) HOKN.out HOKN.out (by unfold maxLen; omega) (by unfold maxLen; omega)
                rw [decide_eq_true rfl] at hsm
                have HSM := hid hsm
                clear hO hQA hB HAL HRO hsm
                go_wp2_with fail
                refine HSM.out.mono ?_
                rintro e wB ⟨rfl, hB⟩
                have HQB := hid (HQA.out.below hB)
                have HLE := hid (jq_len HQB.out)
                clear hB HSM HQA
                go_wp2_with fail
                refine HLE.out.mono ?_
                rintro e wC ⟨rfl, hQC⟩
                have HQC := hid hQC
                clear hQC HLE HQB
                go_wp2_with fail
                go_roundw
                case rel => exact ⟨k + 1, N + 4000, nx, maybe, failed, by omega, by go_num, rfl, by omega, HBN.out, HBM.out.mono (by omega), (HQC.out.sub (by intro r hr; simp at hr ⊢; rcases hr with rfl | rfl <;> simp)).mono (Nat.le_refl _) (fun x h => .inl h) (fun x h => h)⟩
                case measure => simp [intOf]; (try omega)
            · as_aux_lemma =>
                have HX := hid (show JQ w w9 b 3 (fun x => x = sure ∨ x = nx) (fun x => x = sure) (N + 4000) [(.slice A8 nx.length c8, nx), (.slice As sure.length cs, sure), (.slice Am maybe.length cm, maybe)] (.pointer (some ⟨jk, 0, none⟩)) from by have h9 := h; rwa [← HNX.out] at h9)
                have HDK := hid (show Calls Tryd.prog 28 #[.int .i64 ec] w9 fun r w' => r = .returned (.bool true) ∧ w9 = w' from by
                  have := disky_any ec w9
                  rwa [show diskyB ec = true by rcases h1 with rfl | rfl <;> rfl] at this)
                have hb0 : (ec == 0) = false := by simpa using h0
                clear h h1
                go_wp2_with fail
                refine HDK.out.mono ?_
                rintro e wD ⟨rfl, rfl⟩
                clear HDK
                have hro := HX.out.rows_ _ (List.mem_cons_of_mem _ (List.mem_cons_self ..))
                simp only at hro
                have HRO := hid hro
                have HAL := hid (jq_all HX.out (by omega))
                clear hro
                go_wp2_with fail
                refine HAL.out.mono ?_
                rintro e wA ⟨gc, rfl, hO, hQA, hB⟩
                have HQA := hid hQA
                have hsm := same_rows hO (HRO.out.below hB) HOKS.out HOKS.out (by unfold maxLen; omega) (by unfold maxLen; omega)
                rw [decide_eq_true rfl] at hsm
                have HSM := hid hsm
                clear hO hQA hB HAL HRO hsm
                go_wp2_with fail
                refine HSM.out.mono ?_
                rintro e wB ⟨rfl, hB⟩
                have HQB := hid (HQA.out.below hB)
                have HLE := hid (jq_len HQB.out)
                clear hB HSM HQA
                go_wp2_with fail
                refine HLE.out.mono ?_
                rintro e wC ⟨rfl, hQC⟩
                have HQC := hid hQC
                clear hQC HLE HQB
                go_wp2_with fail
                go_roundw
                case rel => exact ⟨k + 1, N + 4000, sure, nx, true, by omega, by go_num, rfl, by omega, HBS.out.mono (by omega), HBN.out, (HQC.out.sub (by intro r hr; simp at hr ⊢; rcases hr with rfl | rfl <;> simp)).mono (Nat.le_refl _) (fun x h => h.imp id (fun e => ⟨rfl, e⟩)) (fun x h => h)⟩
                case measure => simp [intOf]; (try omega)
            · as_aux_lemma =>
                have HX := hid (h)
                have HDK := hid (show Calls Tryd.prog 28 #[.int .i64 ec] w9 fun r w' => r = .returned (.bool false) ∧ w9 = w' from by
                  have := disky_any ec w9
                  rwa [show diskyB ec = false by unfold diskyB; rw [decide_eq_false h1, decide_eq_false h2]; rfl] at this)
                have hb0 : (ec == 0) = false := by simpa using h0
                clear h h1 h2
                go_wp2_with fail
                refine HDK.out.mono ?_
                rintro e wD ⟨rfl, rfl⟩
                clear HDK
                have hro := HX.out.rows_ _ (List.mem_cons_of_mem _ (List.mem_cons_self ..))
                simp only at hro
                have HRO := hid hro
                have HAL := hid (jq_all HX.out (by omega))
                clear hro
                go_wp2_with fail
                refine HAL.out.mono ?_
                rintro e wA ⟨gc, rfl, hO, hQA, hB⟩
                have HQA := hid hQA
                have hsm := same_rows hO (HRO.out.below hB) HOKS.out HOKS.out (by unfold maxLen; omega) (by unfold maxLen; omega)
                rw [decide_eq_true rfl] at hsm
                have HSM := hid hsm
                clear hO hQA hB HAL HRO hsm
                go_wp2_with fail
                refine HSM.out.mono ?_
                rintro e wB ⟨rfl, hB⟩
                have HQB := hid (HQA.out.below hB)
                have HLE := hid (jq_len HQB.out)
                clear hB HSM HQA
                go_wp2_with fail
                refine HLE.out.mono ?_
                rintro e wC ⟨rfl, hQC⟩
                have HQC := hid hQC
                clear hQC HLE HQB
                go_wp2_with fail
                go_roundw
                case rel => exact ⟨k + 1, N + 4000, sure, maybe, failed, by omega, by go_num, rfl, by omega, HBS.out.mono (by omega), HBM.out.mono (by omega), HQC.out.sub (by intro r hr; simp at hr ⊢; rcases hr with rfl | rfl <;> simp)⟩
                case measure => simp [intOf]; (try omega)
      have b0 : (kd == 0) = false := by simpa using h0
      by_cases h1 : kd = 1
      · subst h1
        rcases HJV.out with rfl | ⟨jk, rfl⟩
        · as_aux_lemma =>
            go_wp2_with fail
            go_roundw
            case rel => exact ⟨k + 1, N, sure, maybe, failed, by omega, by go_num, rfl, by omega, HBS.out.mono (by omega), HBM.out.mono (by omega), HQ5.out.mono (by omega) (fun _ h => h) (fun _ h => h)⟩
            case measure => simp [intOf]; (try omega)
        · as_aux_lemma =>
            go_upto_region 25 with fail
            clear x0 x1 x2 x3 xl xf
            have hSX : w5.drew.cell? ⟨gx, 1, none⟩ = some (.slice a1 L1.length d1) ∧ gx < w5.drew.heap.size := ⟨X5.out.cell 1, X5.out.lt⟩
            have HSF := hid (fun (wq : World) (hq : wq.cell? ⟨gx, 1, none⟩ = some (.slice a1 L1.length d1) ∧ gx < wq.heap.size) => hq)
            refine wpIn_wide.1 (wpIn_region_S (n := 0) (fun wq => wq.cell? ⟨gx, 1, none⟩ = some (.slice a1 L1.length d1) ∧ gx < wq.heap.size) [] (by kernel_rfl) hSX (fun hHeld => ?_))
            clear hSX
            have Bd5 := hid (show Below w5.heap.size w5 w5.drew from (Below.refl _ w5).drew)
            have HQd := hid (HQ5.out.below Bd5.out)
            have Xd := hid X5.out.drew
            have hwd := hid (show w5.heap.size ≤ w5.drew.heap.size from Nat.le_refl _)
            generalize w5.drew = wd at *
            refine wpAnyS_pure 1 (v := ?_) (fun _ => trivial) (by simp only [List.getElem?_toArray, List.getElem?_cons_succ, List.getElem?_cons_zero]; rfl) (by kernel_rfl) (fun _ _ _ _ _ h => h) ⟨rfl, (by intro c h; cases h), ?_⟩ hHeld ?_
            rotate_left
            focus (intro wS hSw; (try replace hSw := HSF.out wS hSw); (try dsimp only at hSw); go_simp; (try with_reducible rfl))
            (try simp only [Act.put, List.setIfInBounds_toArray, List.set_cons_zero, List.set_cons_succ])
            refine wpAnyS_pure 3 (v := ?_) (fun _ => trivial) (by simp only [List.getElem?_toArray, List.getElem?_cons_succ, List.getElem?_cons_zero]; rfl) (by kernel_rfl) (fun _ _ _ _ _ h => h) ⟨rfl, (by intro c h; cases h), ?_⟩ hHeld ?_
            rotate_left
            focus (intro wS hSw; (try replace hSw := HSF.out wS hSw); (try dsimp only at hSw); go_simp; (try with_reducible rfl))
            (try simp only [Act.put, List.setIfInBounds_toArray, List.set_cons_zero, List.set_cons_succ])
            refine wpAnyS_take 4 (v := ?_) (fun _ => trivial) (by simp only [List.getElem?_toArray, List.getElem?_cons_succ, List.getElem?_cons_zero]; rfl) (by kernel_rfl) (fun _ _ _ _ _ h => h) ⟨rfl, (by intro c h; cases h), ?_⟩ hHeld ?_
            rotate_left
            focus (intro wS hSw; (try replace hSw := HSF.out wS hSw); (try dsimp only at hSw); go_simp; (try with_reducible rfl))
            (try simp only [Act.put, List.setIfInBounds_toArray, List.set_cons_zero, List.set_cons_succ])
            refine wpAnyS_ready [0] (by kernel_rfl) (by simp) (AllReadyS.cons (by simp only [List.getElem?_toArray, List.getElem?_cons_succ, List.getElem?_cons_zero]; rfl) rfl (fun K hK => ?_) AllReadyS.nil)
            go_simp
            have B6 := hid (show Below wd.heap.size wd (wd.alloc (Obj.cells #[] 9)) by (repeat (first | exact Below.refl _ _ | assumption | refine below_drewN ?_ _ | refine Below.drew ?_ | refine Below.alloc ?_ (by (try simp); (try omega)) _ | refine Below.setCell ?_ (by (try simp); (try omega)) _)))
            have O6 := hid (show strRK.Own (wd.alloc (Obj.cells #[] 9)) wd.heap.size (.slice (some ⟨wd.heap.size, 0, none⟩) 0 0) [] from RK.Own.fresh (l := []) (Blk.new wd _ _) (Nat.le_refl _) (by simp))
            have X6 := hid (Xd.out.below B6.out Xd.out.lt)
            refine hK.out _ _ ⟨X6.out.cell 1, X6.out.lt⟩ ?_
            (try simp only [Act.put, List.setIfInBounds_toArray, List.set_cons_zero, List.set_cons_succ])
            clear hK K hHeld
            have hHeld : (wd.alloc (Obj.cells #[] 9)).cell? ⟨gx, 1, none⟩ = some (.slice a1 L1.length d1) ∧ gx < (wd.alloc (Obj.cells #[] 9)).heap.size := ⟨X6.out.cell 1, X6.out.lt⟩
            have hgd := hid Xd.out.lt
            have hb6 := hid B6.out.size
            have HQ6 := hid (HQd.out.below B6.out)
            generalize wd.alloc (Obj.cells #[] 9) = w6 at *
            generalize hgz : wd.heap.size = gz at *
            have HGZ := hid hgz
            clear hgz
            have hro := HQ6.out.rows_ _ (List.mem_cons_self ..)
            simp only at hro
            have SS6 := hid (own_slr hro HOKS.out)
            clear hro
            refine wpAnyS_ready [2] (by kernel_rfl) (by simp) (AllReadyS.cons (by simp only [List.getElem?_toArray, List.getElem?_cons_succ, List.getElem?_cons_zero]; rfl) rfl (fun K hK => ?_) AllReadyS.nil)
            refine row_appS (fun _ => trivial) (.tmp 64) (.tmp 65) rfl rfl O6.out (by simp) rfl SS6.out (by simp; omega) hb6.out ?_
            intro A7 c7 w7 hO7 hg7 hl7
            have L7 := hid (show ∀ g, (Value.slice A7 (([] : List ByteArray).length + sure.length) c7).ownBlock = some g → some gz = some g ∨ w6.heap.size ≤ g from fun g h => hl7 g h)
            simp only [List.length_nil, Nat.zero_add, List.nil_append] at hO7 L7 ⊢
            have O7 := hid hO7
            have G7 := hid (show w6.grownBy w7 (some gz) from hg7)
            have B7 := hid (show Below gz wd w7 from B6.out.grown G7.out hb6.out (fun q e => by injection e with e; omega))
            have X7 := hid (X6.out.grown G7.out (fun e => by injection e with e; have := hgd.out; omega))
            refine hK.out _ _ ⟨X7.out.cell 1, X7.out.lt⟩ ?_
            (try simp only [Act.put, List.setIfInBounds_toArray, List.set_cons_zero, List.set_cons_succ])
            clear hK K hHeld hO7 hg7 hl7
            have hHeld : w7.cell? ⟨gx, 1, none⟩ = some (.slice a1 L1.length d1) ∧ gx < w7.heap.size := ⟨X7.out.cell 1, X7.out.lt⟩
            have hb7 := hid (show gz ≤ w7.heap.size from B7.out.size |> fun h => by have := HGZ.out; omega)
            have SL7 := hid (show SlR w7 w7.heap.size a1 L1 from by
              have hlow := (HQd.out.low).trans (B7.out.mono (by have := HGZ.out; have := HQd.out.low.size; omega))
              exact (HSL.out.below hlow).more hlow.size)
            refine wpAnyS_ready [5] (by kernel_rfl) (by simp) (AllReadyS.cons (by simp only [List.getElem?_toArray, List.getElem?_cons_succ, List.getElem?_cons_zero]; rfl) rfl (fun K hK => ?_) AllReadyS.nil)
            refine row_appS (fun _ => trivial) (.tmp 66) (.tmp 68) rfl rfl O7.out HOKS.out rfl SL7.out (by have := HBL.out.1; omega) hb7.out ?_
            intro A8 c8 w8 hO8 hg8 hl8
            obtain ⟨nx, hnx⟩ : ∃ nx, nx = sure ++ L1 := ⟨_, rfl⟩
            have hlen : sure.length + L1.length = nx.length := by rw [hnx, List.length_append]
            rw [hlen]
            rw [hlen, ← hnx] at hO8
            have HNX := hid hnx
            have G8 := hid (show w7.grownBy w8 (Value.slice A7 sure.length c7).ownBlock from hg8)
            have B8 := hid (show Below gz wd w8 from B7.out.grown G8.out hb7.out (fun q e => by
              rcases L7.out q e with h | h
              · injection h with h; omega
              · have := hb6.out; omega))
            have X8 := hid (X7.out.grown G8.out (fun e => by
              rcases L7.out gx e.symm with h | h
              · injection h with h; have := hgd.out; omega
              · have := hb6.out; have := hgd.out; omega))
            have HQ8 := hid (HQd.out.row (by have := HGZ.out; subst this; exact B8.out) (by have := HGZ.out; subst this; exact hO8))
            refine hK.out _ _ ⟨X8.out.cell 1, X8.out.lt⟩ ?_
            (try simp only [Act.put, List.setIfInBounds_toArray, List.set_cons_zero, List.set_cons_succ])
            clear hK K hHeld hO8 hg8 hl8 hnx
            have hHeld : w8.cell? ⟨gx, 1, none⟩ = some (.slice a1 L1.length d1) ∧ gx < w8.heap.size := ⟨X8.out.cell 1, X8.out.lt⟩
            refine wpAnyS_pure 6 (v := ?_) (fun _ => trivial) (by simp only [List.getElem?_toArray, List.getElem?_cons_succ, List.getElem?_cons_zero]; rfl) (by kernel_rfl) (fun _ _ _ _ _ h => h) ⟨rfl, (by intro c h; cases h), ?_⟩ hHeld ?_
            rotate_left
            focus (intro wS hSw; (try replace hSw := HSF.out wS hSw); (try dsimp only at hSw); go_simp; (try with_reducible rfl))
            (try simp only [Act.put, List.setIfInBounds_toArray, List.set_cons_zero, List.set_cons_succ])
            refine wpAnyS_done (by kernel_rfl) ?_
            clear hHeld HSF B6 B7 B8 O6 O7 L7 G7 G8 X6 X7 SS6 SL7 HQ6 HQd Xd hlen Bd5 hb6 hb7 hgd HGZ hwd
            have HQ9 := hid (HQ8.out.sub (rows' := [(.slice As sure.length cs, sure), (.slice Am maybe.length cm, maybe)]) (by intro r hr; simp at hr ⊢; rcases hr with rfl | rfl <;> simp))
            clear HQ8 HNX
            have x0 := X8.out.cell 0; have x1 := X8.out.cell 1; have x2 := X8.out.cell 2; have xl := X8.out.lt
            simp at x0 x1 x2
            have HC := hid (jq_cut HQ9.out ⟨by omega, by omega⟩ n HI2.out (fun x e => by rw [e]; exact HBS.out) (by omega) (by omega))
            go_wp2_with fail
            refine HC.out.mono ?_
            rintro e w9 ⟨ec, l0, rfl, hkt, hl0, hres⟩
            rw [show l0 = sure from hl0] at hres
            have X9 := hid (hkt gx _ _ (by simp) X8.out)
            clear hl0 l0 HC hkt x0 x1 x2 xl HQ9 X8
            have hany : ∃ Ls Q, JQ w w9 b 3 Ls Q (N + 4000) [(.slice As sure.length cs, sure), (.slice Am maybe.length cm, maybe)] (.pointer (some ⟨jk, 0, none⟩)) := by
              rcases hres with ⟨_, _, _, h⟩ | ⟨_, _, _, _, h⟩ | ⟨_, _, _, h⟩
              · exact ⟨_, _, h.jq⟩
              · exact ⟨_, _, h⟩
              · exact ⟨_, _, h⟩
            obtain ⟨Ls9, Q9, hq9⟩ := hany
            have hro := hq9.rows_ _ (List.mem_cons_self ..)
            simp only at hro
            obtain ⟨m, hm⟩ : ∃ m : Nat, max 0 (min n (sure.length : Int)) = (m : Int) := ⟨(max 0 (min n (sure.length : Int))).toNat, by omega⟩
            have hmle : m ≤ sure.length := by omega
            obtain ⟨nx, hnx⟩ : ∃ nx, nx = sure.take m := ⟨_, rfl⟩
            have hnl0 : nx.length = m := by rw [hnx, List.length_take]; omega
            have HNX := hid (show 0 ≤ n ∧ n ≤ (sure.length : Int) → nx = sure.take n.toNat from fun h => by rw [hnx]; congr 1; omega)
            have HBN := hid (show Bd (8 * (k + 1)) nx from by rw [hnx]; exact (HBS.out.take m).mono (by omega))
            have HOKN := hid HBN.out.max_
            have hnl := HBN.out.1
            have B9 := hid (show Below w9.heap.size w9 (w9.alloc (Obj.cells #[] 9)) by (repeat (first | exact Below.refl _ _ | assumption | refine below_drewN ?_ _ | refine Below.drew ?_ | refine Below.alloc ?_ (by (try simp); (try omega)) _ | refine Below.setCell ?_ (by (try simp); (try omega)) _)))
            have O9 := hid (show strRK.Own (w9.alloc (Obj.cells #[] 9)) w9.heap.size (.slice (some ⟨w9.heap.size, 0, none⟩) 0 0) [] from RK.Own.fresh (l := []) (Blk.new w9 _ _) (Nat.le_refl _) (by simp))
            have SS9 := hid (show SlR (w9.alloc (Obj.cells #[] 9)) (w9.alloc (Obj.cells #[] 9)).heap.size As nx from by
              rw [hnx]; exact (((own_slr hro HOKS.out).below B9.out).more B9.out.size).take1 m)
            subst hnl0
            have HM := hid hm
            have hok0 := hid (show ∀ x ∈ ([] : List ByteArray), x.size ≤ maxLen by simp)
            have hle0 := hid (show ([] : List ByteArray).length + nx.length ≤ 100000000 by simp; omega)
            have hb9 := hid B9.out.size
            have hcap : sure.length ≤ cs ∧ cs ≤ 9223372036854775807 := by
              rcases hro.2 with ⟨e, _⟩ | ⟨g9, cap, cur, e, _, _, h1, h2, _⟩
              · injection e with e1 e2 e3
                omega
              · injection e with e1 e2 e3
                unfold maxLen at h2
                omega
            have x2 := X9.out.cell 2; have xl := X9.out.lt
            simp at x2
            clear hq9 hro hnx
            go_upto_region 31 with (at_builtin; refine row_appL rfl (.tmp 81) (.tmp 89) rfl rfl O9.out hok0.out rfl SS9.out hle0.out hb9.out ?_; intro A8 c8 w10 hO10 hg10 hl10; have O10a := hid hO10; have G10 := hid hg10; clear hO10 hg10 hl10)
            have O10 := O10a.out
            simp only [List.length_nil, Nat.zero_add, List.nil_append] at O10 ⊢
            have O10 := hid O10
            have B10 := hid (show Below w9.heap.size w9 w10 from B9.out.grown (show (w9.alloc (Obj.cells #[] 9)).grownBy w10 (some w9.heap.size) from G10.out) hb9.out (fun q e => by injection e with e; omega))
            clear O10a G10 O9 SS9 B9 X9 x2 xl hm HM hcap
            rcases hres with ⟨rfl, n1, n2, h⟩ | ⟨h0, h1, n1, n2, h⟩ | ⟨h0, h1, h2, h⟩
            · as_aux_lemma =>
                have HX := hid (show JQ w w10 b 3 (fun x => x = nx) (fun x => x = nx) (N + 4000) [(.slice A8 nx.length c8, nx), (.slice As sure.length cs, sure), (.slice Am maybe.length cm, maybe)] (.pointer (some ⟨jk, 0, none⟩)) from by have h9 := h.jq.row B10.out O10.out; rwa [← HNX.out ⟨n1, n2⟩] at h9)
                have HDK := hid (show Calls Tryd.prog 28 #[.int .i64 0] w10 fun r w' => r = .returned (.bool false) ∧ w10 = w' from disky_any 0 w10)
                clear h
                go_wp2_with fail
                refine HDK.out.mono ?_
                rintro e wD ⟨rfl, rfl⟩
                clear HDK
                have hro := HX.out.rows_ _ (List.mem_cons_self ..)
                simp only at hro
                have HRO := hid hro
                have HAL := hid (jq_all HX.out (by omega))
                clear hro
                go_wp2_with fail
                refine HAL.out.mono ?_
                rintro e wA ⟨gc, rfl, hO, hQA, hB⟩
                have HQA := hid hQA
                have hsm := same_rows hO (HRO.out.below hB) HOKN.out HOKN.out (by unfold maxLen; omega) (by unfold maxLen; omega)
                rw [decide_eq_true rfl] at hsm
                have HSM := hid hsm
                clear hO hQA hB HAL HRO hsm
                go_wp2_with fail
                refine HSM.out.mono ?_
                rintro e wB ⟨rfl, hB⟩
                have HQB := hid (HQA.out.below hB)
                have HLE := hid (jq_len HQB.out)
                clear hB HSM HQA
                go_wp2_with fail
                refine HLE.out.mono ?_
                rintro e wC ⟨rfl, hQC⟩
                have HQC := hid hQC
                clear hQC HLE HQB
                go_wp2_with fail
                go_roundw
                case rel => exact ⟨k + 1, N + 4000, nx, maybe, failed, by omega, by go_num, rfl, by omega, HBN.out, HBM.out.mono (by omega), (HQC.out.sub (by intro r hr; simp at hr ⊢; rcases hr with rfl | rfl <;> simp)).mono (Nat.le_refl _) (fun x h => .inl h) (fun x h => h)⟩
                case measure => simp [intOf]; (try omega)
            · as_aux_lemma =>
                have HX := hid (show JQ w w10 b 3 (fun x => x = sure ∨ x = nx) (fun x => x = sure) (N + 4000) [(.slice A8 nx.length c8, nx), (.slice As sure.length cs, sure), (.slice Am maybe.length cm, maybe)] (.pointer (some ⟨jk, 0, none⟩)) from by have h9 := h.row B10.out O10.out; rwa [← HNX.out ⟨n1, by omega⟩] at h9)
                have HDK := hid (show Calls Tryd.prog 28 #[.int .i64 ec] w10 fun r w' => r = .returned (.bool true) ∧ w10 = w' from by
                  have := disky_any ec w10
                  rwa [show diskyB ec = true by rcases h1 with rfl | rfl <;> rfl] at this)
                have hb0 : (ec == 0) = false := by simpa using h0
                clear h h1
                go_wp2_with fail
                refine HDK.out.mono ?_
                rintro e wD ⟨rfl, rfl⟩
                clear HDK
                have hro := HX.out.rows_ _ (List.mem_cons_of_mem _ (List.mem_cons_self ..))
                simp only at hro
                have HRO := hid hro
                have HAL := hid (jq_all HX.out (by omega))
                clear hro
                go_wp2_with fail
                refine HAL.out.mono ?_
                rintro e wA ⟨gc, rfl, hO, hQA, hB⟩
                have HQA := hid hQA
                have hsm := same_rows hO (HRO.out.below hB) HOKS.out HOKS.out (by unfold maxLen; omega) (by unfold maxLen; omega)
                rw [decide_eq_true rfl] at hsm
                have HSM := hid hsm
                clear hO hQA hB HAL HRO hsm
                go_wp2_with fail
                refine HSM.out.mono ?_
                rintro e wB ⟨rfl, hB⟩
                have HQB := hid (HQA.out.below hB)
                have HLE := hid (jq_len HQB.out)
                clear hB HSM HQA
                go_wp2_with fail
                refine HLE.out.mono ?_
                rintro e wC ⟨rfl, hQC⟩
                have HQC := hid hQC
                clear hQC HLE HQB
                go_wp2_with fail
                go_roundw
                case rel => exact ⟨k + 1, N + 4000, sure, nx, true, by omega, by go_num, rfl, by omega, HBS.out.mono (by omega), HBN.out, (HQC.out.sub (by intro r hr; simp at hr ⊢; rcases hr with rfl | rfl <;> simp)).mono (Nat.le_refl _) (fun x h => h.imp id (fun e => ⟨rfl, e⟩)) (fun x h => h)⟩
                case measure => simp [intOf]; (try omega)
            · as_aux_lemma =>
                have HX := hid (h.row B10.out O10.out)
                have HDK := hid (show Calls Tryd.prog 28 #[.int .i64 ec] w10 fun r w' => r = .returned (.bool false) ∧ w10 = w' from by
                  have := disky_any ec w10
                  rwa [show diskyB ec = false by unfold diskyB; rw [decide_eq_false h1, decide_eq_false h2]; rfl] at this)
                have hb0 : (ec == 0) = false := by simpa using h0
                clear h h1 h2
                go_wp2_with fail
                refine HDK.out.mono ?_
                rintro e wD ⟨rfl, rfl⟩
                clear HDK
                have hro := HX.out.rows_ _ (List.mem_cons_of_mem _ (List.mem_cons_self ..))
                simp only at hro
                have HRO := hid hro
                have HAL := hid (jq_all HX.out (by omega))
                clear hro
                go_wp2_with fail
                refine HAL.out.mono ?_
                rintro e wA ⟨gc, rfl, hO, hQA, hB⟩
                have HQA := hid hQA
                have hsm := same_rows hO (HRO.out.below hB) HOKS.out HOKS.out (by unfold maxLen; omega) (by unfold maxLen; omega)
                rw [decide_eq_true rfl] at hsm
                have HSM := hid hsm
                clear hO hQA hB HAL HRO hsm
                go_wp2_with fail
                refine HSM.out.mono ?_
                rintro e wB ⟨rfl, hB⟩
                have HQB := hid (HQA.out.below hB)
                have HLE := hid (jq_len HQB.out)
                clear hB HSM HQA
                go_wp2_with fail
                refine HLE.out.mono ?_
                rintro e wC ⟨rfl, hQC⟩
                have HQC := hid hQC
                clear hQC HLE HQB
                go_wp2_with fail
                go_roundw
                case rel => exact ⟨k + 1, N + 4000, sure, maybe, failed, by omega, by go_num, rfl, by omega, HBS.out.mono (by omega), HBM.out.mono (by omega), HQC.out.sub (by intro r hr; simp at hr ⊢; rcases hr with rfl | rfl <;> simp)⟩
                case measure => simp [intOf]; (try omega)
      have b1 : (kd == 1) = false := by simpa using h1
      by_cases h2 : kd = 2
      · subst h2
        as_aux_lemma =>
          have HC := hid (jq_lose HQ5.out n HI2.out)
          go_wp2_with fail
          refine HC.out.mono ?_
          rintro e w6 ⟨rfl, hq, -⟩
          have HQ5 := hid hq
          clear hq HC x0 x1 x2 x3 xl xf
          go_wp2_with fail
          go_roundw
          case rel => exact ⟨k + 1, N, sure, maybe, failed, by omega, by go_num, rfl, by omega, HBS.out.mono (by omega), HBM.out.mono (by omega), HQ5.out.mono (by omega) (fun _ h => h) (fun _ h => h)⟩
          case measure => simp [intOf]; (try omega)
      have b2 : (kd == 2) = false := by simpa using h2
      by_cases h3 : kd = 3
      · subst h3
        as_aux_lemma =>
          have hlow := HQ5.out.low
          have HC := hid (jq_arm HQ5.out n HI2.out a2 d2 kp (by have := HBK.out; omega) ((HSK.out.below hlow).more hlow.size))
          clear hlow
          go_wp2_with fail
          refine HC.out.mono ?_
          rintro e w6 ⟨rfl, hq, -⟩
          have HQ5 := hid hq
          clear hq HC x0 x1 x2 x3 xl xf
          go_wp2_with fail
          go_roundw
          case rel => exact ⟨k + 1, N, sure, maybe, failed, by omega, by go_num, rfl, by omega, HBS.out.mono (by omega), HBM.out.mono (by omega), HQ5.out.mono (by omega) (fun _ h => h) (fun _ h => h)⟩
          case measure => simp [intOf]; (try omega)
      have b3 : (kd == 3) = false := by simpa using h3
      by_cases h4 : kd = 4
      · subst h4
        as_aux_lemma =>
          have HC1 := hid (jd_crash (P' := fun _ => True) HQ5.out.disk a2 d2 kp (by have := HBK.out; omega) HSK.out (by omega) (fun _ _ _ _ => trivial))
          go_wp2_with fail
          refine HC1.out.mono ?_
          rintro e wQ ⟨rfl, hd, -⟩
          have HC2 := hid (jd_start (P' := fun _ => True) hd (fun _ _ => trivial))
          clear hd HC1 x0 x1 x2 x3 xl xf
          go_wp2_with fail
          refine HC2.out.mono ?_
          rintro e wS ⟨rfl, hd, -⟩
          have HC3 := hid (jd_open hd (fun s h => h.1) (by omega) (by omega) (fun x h => by rcases h with e | ⟨_, e⟩ <;> (rw [e]; first | exact HBS.out.mono (by omega) | exact HBM.out.mono (by omega))) (by omega))
          clear hd HC2
          go_wp2_with fail
          refine HC3.out.mono ?_
          rintro e wP ⟨jv2, ec, rfl, -, hres⟩
          clear HC3

          rcases hres with ⟨rfl, he, hn, h⟩ | ⟨jk, l2, rfl, rfl, hl2, h⟩
          · as_aux_lemma =>
              have HDK := hid (show Calls Tryd.prog 28 #[.int .i64 ec] wP fun r w' => r = .returned (.bool true) ∧ wP = w' from by
                have := disky_any ec wP
                rwa [show diskyB ec = true by rcases he with rfl | rfl <;> rfl] at this)
              have HQP := hid h
              have hkb : ((k : Int) == (l.length : Int)) = false := by rw [beq_eq_false_iff_ne]; omega
              have hkb2 : ¬ (k : Int) = (l.length : Int) := by omega
              clear h he hn
              go_wp2_with fail
              refine HDK.out.mono ?_
              rintro e wD ⟨rfl, rfl⟩
              clear HDK
              go_wp2_with fail
              go_roundw
              case rel => exact ⟨k + 1, N + 2, sure, maybe, failed, by omega, by go_num, rfl, by omega, HBS.out.mono (by omega), HBM.out.mono (by omega), HQP.out.none_⟩
              case measure => simp [intOf]; (try omega)
          have HQP := hid h.jq
          have HL2 := hid (show Bd (8 * (k + 1)) l2 from by
            rcases hl2 with e | ⟨_, e⟩
            · rw [e]; exact HBS.out.mono (by omega)
            · rw [e]; exact HBM.out.mono (by omega))
          have HOK2 := hid HL2.out.max_
          have hl2l := HL2.out.1
          have HT2 := hid hl2
          clear h hl2
          have hro := HQP.out.rows_ _ (List.mem_cons_self ..)
          simp only at hro
          have HRO := hid hro
          have HAL := hid (jq_all HQP.out (by omega))
          clear hro
          go_wp2_with fail
          refine HAL.out.mono ?_
          rintro e wA ⟨gc, rfl, hO, hQA, hB⟩
          have HQA := hid hQA
          have hsm := same_rows hO (HRO.out.below hB) HOK2.out HOKS.out (by unfold maxLen; omega) (by unfold maxLen; omega)
          have HSM0 := hid hsm
          clear hO hQA hB HAL HRO hsm
          by_cases hls : l2 = sure
          · as_aux_lemma =>
              have hsm := HSM0.out
              rw [decide_eq_true hls] at hsm
              have HSM := hid hsm
              clear HSM0 hsm hls
              go_wp2_with fail
              refine HSM.out.mono ?_
              rintro e wB ⟨rfl, hB⟩
              have HQB := hid (HQA.out.below hB)
              have HAL := hid (jq_all HQB.out (by omega))
              clear hB HSM HQA
              go_wp2_with fail
              refine HAL.out.mono ?_
              rintro e wC ⟨gd, rfl, hO, hQC, hB⟩
              have HQC := hid (HQB.out.row hB hO)
              clear hO hQC hB HAL HQB
              go_wp2_with fail
              go_roundw
              case rel => exact ⟨k + 1, N + 2, l2, maybe, false, by omega, by go_num, rfl, by omega, HL2.out, HBM.out.mono (by omega), (HQC.out.sub (by intro r hr; simp at hr ⊢; rcases hr with rfl | rfl <;> simp)).mono (Nat.le_refl _) (fun x h => .inl h) (fun x h => h)⟩
              case measure => simp [intOf]; (try omega)
          · as_aux_lemma =>
              have hsm := HSM0.out
              rw [decide_eq_false hls] at hsm
              have HSM := hid hsm
              obtain ⟨hf, h2m⟩ : failed = true ∧ l2 = maybe := HT2.out.resolve_left hls
              subst hf
              have HLM := hid h2m
              clear HSM0 hsm hls h2m HT2
              go_wp2_with fail
              refine HSM.out.mono ?_
              rintro e wB ⟨rfl, hB⟩
              have HQB := hid (HQA.out.below hB)
              have hro := HQB.out.rows_ _ (List.mem_cons_of_mem _ (List.mem_cons_self ..))
              simp only at hro
              have HRO := hid hro
              have HAL := hid (jq_all HQB.out (by omega))
              clear hB HSM HQA hro
              go_wp2_with fail
              refine HAL.out.mono ?_
              rintro e wC ⟨gd, rfl, hO, hQC, hB⟩
              have HQC := hid hQC
              have hsm := same_rows hO (HRO.out.below hB) HOK2.out (HBM.out.max_) (by unfold maxLen; omega) (by unfold maxLen; omega)
              rw [decide_eq_true HLM.out] at hsm
              have HSM := hid hsm
              clear hO hQC hB HAL HRO hsm HQB
              go_wp2_with fail
              refine HSM.out.mono ?_
              rintro e wD ⟨rfl, hB⟩
              have HQD := hid (HQC.out.below hB)
              have HAL := hid (jq_all HQD.out (by omega))
              clear hB HSM HQC
              go_wp2_with fail
              refine HAL.out.mono ?_
              rintro e wE ⟨ge, rfl, hO, hQE, hB⟩
              have HQE := hid (HQD.out.row hB hO)
              clear hO hQE hB HAL HQD
              go_wp2_with fail
              go_roundw
              case rel => exact ⟨k + 1, N + 2, l2, maybe, false, by omega, by go_num, rfl, by omega, HL2.out, HBM.out.mono (by omega), (HQE.out.sub (by intro r hr; simp at hr ⊢; rcases hr with rfl | rfl <;> simp)).mono (Nat.le_refl _) (fun x h => .inl h) (fun x h => h)⟩
              case measure => simp [intOf]; (try omega)
      have b4 : (kd == 4) = false := by simpa using h4
      by_cases h5 : kd = 5
      · subst h5
        as_aux_lemma =>
          have HC2 := hid (jd_start (P' := fun _ => True) HQ5.out.disk (fun _ _ => trivial))
          go_wp2_with fail
          refine HC2.out.mono ?_
          rintro e wS ⟨rfl, hd, -⟩
          have HC3 := hid (jd_open hd (fun s h => h.1) (by omega) (by omega) (fun x h => by rcases h with e | ⟨_, e⟩ <;> (rw [e]; first | exact HBS.out.mono (by omega) | exact HBM.out.mono (by omega))) (by omega))
          clear hd HC2 x0 x1 x2 x3 xl xf
          go_wp2_with fail
          refine HC3.out.mono ?_
          rintro e wP ⟨jv2, ec, rfl, -, hres⟩
          clear HC3

          rcases hres with ⟨rfl, he, hn, h⟩ | ⟨jk, l2, rfl, rfl, hl2, h⟩
          · as_aux_lemma =>
              have HDK := hid (show Calls Tryd.prog 28 #[.int .i64 ec] wP fun r w' => r = .returned (.bool true) ∧ wP = w' from by
                have := disky_any ec wP
                rwa [show diskyB ec = true by rcases he with rfl | rfl <;> rfl] at this)
              have HQP := hid h
              have hkb : ((k : Int) == (l.length : Int)) = false := by rw [beq_eq_false_iff_ne]; omega
              have hkb2 : ¬ (k : Int) = (l.length : Int) := by omega
              clear h he hn
              go_wp2_with fail
              refine HDK.out.mono ?_
              rintro e wD ⟨rfl, rfl⟩
              clear HDK
              go_wp2_with fail
              go_roundw
              case rel => exact ⟨k + 1, N + 2, sure, maybe, failed, by omega, by go_num, rfl, by omega, HBS.out.mono (by omega), HBM.out.mono (by omega), HQP.out.none_⟩
              case measure => simp [intOf]; (try omega)
          have HQP := hid h.jq
          have HL2 := hid (show Bd (8 * (k + 1)) l2 from by
            rcases hl2 with e | ⟨_, e⟩
            · rw [e]; exact HBS.out.mono (by omega)
            · rw [e]; exact HBM.out.mono (by omega))
          have HOK2 := hid HL2.out.max_
          have hl2l := HL2.out.1
          have HT2 := hid hl2
          clear h hl2
          have hro := HQP.out.rows_ _ (List.mem_cons_self ..)
          simp only at hro
          have HRO := hid hro
          have HAL := hid (jq_all HQP.out (by omega))
          clear hro
          go_wp2_with fail
          refine HAL.out.mono ?_
          rintro e wA ⟨gc, rfl, hO, hQA, hB⟩
          have HQA := hid hQA
          have hsm := same_rows hO (HRO.out.below hB) HOK2.out HOKS.out (by unfold maxLen; omega) (by unfold maxLen; omega)
          have HSM0 := hid hsm
          clear hO hQA hB HAL HRO hsm
          by_cases hls : l2 = sure
          · as_aux_lemma =>
              have hsm := HSM0.out
              rw [decide_eq_true hls] at hsm
              have HSM := hid hsm
              clear HSM0 hsm hls
              go_wp2_with fail
              refine HSM.out.mono ?_
              rintro e wB ⟨rfl, hB⟩
              have HQB := hid (HQA.out.below hB)
              have HAL := hid (jq_all HQB.out (by omega))
              clear hB HSM HQA
              go_wp2_with fail
              refine HAL.out.mono ?_
              rintro e wC ⟨gd, rfl, hO, hQC, hB⟩
              have HQC := hid (HQB.out.row hB hO)
              clear hO hQC hB HAL HQB
              go_wp2_with fail
              go_roundw
              case rel => exact ⟨k + 1, N + 2, l2, maybe, false, by omega, by go_num, rfl, by omega, HL2.out, HBM.out.mono (by omega), (HQC.out.sub (by intro r hr; simp at hr ⊢; rcases hr with rfl | rfl <;> simp)).mono (Nat.le_refl _) (fun x h => .inl h) (fun x h => h)⟩
              case measure => simp [intOf]; (try omega)
          · as_aux_lemma =>
              have hsm := HSM0.out
              rw [decide_eq_false hls] at hsm
              have HSM := hid hsm
              obtain ⟨hf, h2m⟩ : failed = true ∧ l2 = maybe := HT2.out.resolve_left hls
              subst hf
              have HLM := hid h2m
              clear HSM0 hsm hls h2m HT2
              go_wp2_with fail
              refine HSM.out.mono ?_
              rintro e wB ⟨rfl, hB⟩
              have HQB := hid (HQA.out.below hB)
              have hro := HQB.out.rows_ _ (List.mem_cons_of_mem _ (List.mem_cons_self ..))
              simp only at hro
              have HRO := hid hro
              have HAL := hid (jq_all HQB.out (by omega))
              clear hB HSM HQA hro
              go_wp2_with fail
              refine HAL.out.mono ?_
              rintro e wC ⟨gd, rfl, hO, hQC, hB⟩
              have HQC := hid hQC
              have hsm := same_rows hO (HRO.out.below hB) HOK2.out (HBM.out.max_) (by unfold maxLen; omega) (by unfold maxLen; omega)
              rw [decide_eq_true HLM.out] at hsm
              have HSM := hid hsm
              clear hO hQC hB HAL HRO hsm HQB
              go_wp2_with fail
              refine HSM.out.mono ?_
              rintro e wD ⟨rfl, hB⟩
              have HQD := hid (HQC.out.below hB)
              have HAL := hid (jq_all HQD.out (by omega))
              clear hB HSM HQC
              go_wp2_with fail
              refine HAL.out.mono ?_
              rintro e wE ⟨ge, rfl, hO, hQE, hB⟩
              have HQE := hid (HQD.out.row hB hO)
              clear hO hQE hB HAL HQD
              go_wp2_with fail
              go_roundw
              case rel => exact ⟨k + 1, N + 2, l2, maybe, false, by omega, by go_num, rfl, by omega, HL2.out, HBM.out.mono (by omega), (HQE.out.sub (by intro r hr; simp at hr ⊢; rcases hr with rfl | rfl <;> simp)).mono (Nat.le_refl _) (fun x h => .inl h) (fun x h => h)⟩
              case measure => simp [intOf]; (try omega)
      have b5 : (kd == 5) = false := by simpa using h5
      as_aux_lemma =>
        go_wp2_with fail
        go_roundw
        case rel => exact ⟨k + 1, N, sure, maybe, failed, by omega, by go_num, rfl, by omega, HBS.out.mono (by omega), HBM.out.mono (by omega), HQ5.out.mono (by omega) (fun _ h => h) (fun _ h => h)⟩
        case measure => simp [intOf]; (try omega)
    case neg =>
      by_cases hkl : k = l.length
      case neg =>
        obtain rfl : k = l.length + 1 := by omega
        have hgt : ¬ ((l.length + 1 : Nat) : Int) ≤ (l.length : Int) := by omega
        go_wp2_with fail
        go_ret
        exact ⟨rfl, HQ.out.low⟩
      case pos =>
        subst hkl
        have HOKS := hid HBS.out.max_
        have HKL9 := HKL.out
        go_upto_region 19 with fail
        obtain ⟨w4, hw4⟩ : ∃ w4, w4 = wr.alloc (Obj.cells #[Value.int .i64 4, Value.slice none 0 0, Value.int .i64 0, Value.slice A2 kp0.length c2] 49) := ⟨_, rfl⟩
        obtain ⟨gx, hgx⟩ : ∃ gx, gx = wr.heap.size := ⟨_, rfl⟩
        have B4 := hid (show Below wr.heap.size wr w4 by rw [hw4]; (repeat (first | exact Below.refl _ _ | assumption | refine below_drewN ?_ _ | refine Below.drew ?_ | refine Below.alloc ?_ (by (try simp); (try omega)) _ | refine Below.setCell ?_ (by (try simp); (try omega)) _)))
        have X4 := hid (show Blk w4 gx 49 #[Value.int .i64 4, Value.slice none 0 0, Value.int .i64 0, Value.slice A2 kp0.length c2] by rw [hw4, hgx]; exact Blk.new wr _ _)
        have HD4 := hid ((HQ.out.below B4.out).disk)
        rw [← hw4, ← hgx]
        obtain ⟨k, hk9⟩ : ∃ k, k = l.length := ⟨_, rfl⟩
        have HK9 := hid hk9
        clear hw4 hgx HQ hk9
        have HC5 := hid (jd_lose (P' := fun s => s.lost = 0) HD4.out 0 ⟨by omega, by omega⟩ (fun s _ => rfl))
        go_wp2_with fail
        refine HC5.out.mono ?_
        rintro e w5 ⟨rfl, hd, hkt⟩
        have X5 := hid (hkt gx _ _ (by simp) X4.out)
        have HC6 := hid (jd_arm (P' := fun s => s.armed = 0 ∧ s.lost = 0) hd 0 ⟨by omega, by omega⟩ none 0 [] (by simp) SlR.nil (fun s h => ⟨rfl, h⟩))
        clear hd hkt HC5 X4 B4 HD4
        go_wp2_with fail
        refine HC6.out.mono ?_
        rintro e w6 ⟨rfl, hd, hkt⟩
        have X6 := hid (hkt gx _ _ (by simp) X5.out)
        have HC1 := hid (jd_crash (P' := fun s => s.armed = 0 ∧ s.lost = 0) hd A2 c2 kp0 (by omega) HS2.out (by omega) (fun s s' h hc => by
          cases hdn : s.down with
          | true => rw [hc.2.1 hdn]; exact h
          | false => exact ⟨(hc.2.2 hdn).1, (hc.2.2 hdn).2.1.trans h.2⟩))
        clear hd hkt HC6 X5
        have x0 := X6.out.cell 0; have x3 := X6.out.cell 3; have xl := X6.out.lt
        simp at x0 x3
        go_wp2_with fail
        refine HC1.out.mono ?_
        rintro e wQ ⟨rfl, hd, -⟩
        have HC2 := hid (jd_start (P' := fun s => s.armed = 0 ∧ s.lost = 0) hd (fun s h => h))
        clear hd HC1 x0 x3 xl X6

        go_wp2_with fail
        refine HC2.out.mono ?_
        rintro e wS ⟨rfl, hd, -⟩
        have HC3 := hid (jd_open hd (fun s h => h.1) (by omega) (by omega) (fun x h => by rcases h with e | ⟨_, e⟩ <;> (rw [e]; first | exact HBS.out.mono (by omega) | exact HBM.out.mono (by omega))) (by omega))
        clear hd HC2
        go_wp2_with fail
        refine HC3.out.mono ?_
        rintro e wP ⟨jv2, ec, rfl, -, hres⟩
        clear HC3

        rcases hres with ⟨_, _, h, _⟩ | ⟨jk, l2, rfl, rfl, hl2, h⟩
        · exact absurd (fun s h => ⟨h.2.1, h.2.2, h.1⟩) h
        have HQP := hid h.jq
        have HL2 := hid (show Bd (8 * (l.length + 1)) l2 from by
          rcases hl2 with e | ⟨_, e⟩
          · rw [e]; exact HBS.out.mono (by omega)
          · rw [e]; exact HBM.out.mono (by omega))
        have HOK2 := hid HL2.out.max_
        have hl2l := HL2.out.1
        have HT2 := hid hl2
        clear h hl2
        have hro := HQP.out.rows_ _ (List.mem_cons_self ..)
        simp only at hro
        have HRO := hid hro
        have HAL := hid (jq_all HQP.out (by omega))
        clear hro
        go_wp2_with fail
        refine HAL.out.mono ?_
        rintro e wA ⟨gc, rfl, hO, hQA, hB⟩
        have HQA := hid hQA
        have hsm := same_rows hO (HRO.out.below hB) HOK2.out HOKS.out (by unfold maxLen; omega) (by unfold maxLen; omega)
        have HSM0 := hid hsm
        clear hO hQA hB HAL HRO hsm
        by_cases hls : l2 = sure
        · as_aux_lemma =>
            have hsm := HSM0.out
            rw [decide_eq_true hls] at hsm
            have HSM := hid hsm
            clear HSM0 hsm hls
            go_wp2_with fail
            refine HSM.out.mono ?_
            rintro e wB ⟨rfl, hB⟩
            have HQB := hid (HQA.out.below hB)
            have HAL := hid (jq_all HQB.out (by omega))
            clear hB HSM HQA
            go_wp2_with fail
            refine HAL.out.mono ?_
            rintro e wC ⟨gd, rfl, hO, hQC, hB⟩
            have HQC := hid (HQB.out.row hB hO)
            clear hO hQC hB HAL HQB
            go_wp2_with fail
            go_roundw
            case rel => exact ⟨l.length + 1, N + 2, l2, maybe, false, by omega, by go_num, rfl, by omega, HL2.out, HBM.out.mono (by omega), (HQC.out.sub (by intro r hr; simp at hr ⊢; rcases hr with rfl | rfl <;> simp)).mono (Nat.le_refl _) (fun x h => .inl h) (fun x h => h)⟩
            case measure => simp [intOf]; (try omega)
        · as_aux_lemma =>
            have hsm := HSM0.out
            rw [decide_eq_false hls] at hsm
            have HSM := hid hsm
            obtain ⟨hf, h2m⟩ : failed = true ∧ l2 = maybe := HT2.out.resolve_left hls
            subst hf
            have HLM := hid h2m
            clear HSM0 hsm hls h2m HT2
            go_wp2_with fail
            refine HSM.out.mono ?_
            rintro e wB ⟨rfl, hB⟩
            have HQB := hid (HQA.out.below hB)
            have hro := HQB.out.rows_ _ (List.mem_cons_of_mem _ (List.mem_cons_self ..))
            simp only at hro
            have HRO := hid hro
            have HAL := hid (jq_all HQB.out (by omega))
            clear hB HSM HQA hro
            go_wp2_with fail
            refine HAL.out.mono ?_
            rintro e wC ⟨gd, rfl, hO, hQC, hB⟩
            have HQC := hid hQC
            have hsm := same_rows hO (HRO.out.below hB) HOK2.out (HBM.out.max_) (by unfold maxLen; omega) (by unfold maxLen; omega)
            rw [decide_eq_true HLM.out] at hsm
            have HSM := hid hsm
            clear hO hQC hB HAL HRO hsm HQB
            go_wp2_with fail
            refine HSM.out.mono ?_
            rintro e wD ⟨rfl, hB⟩
            have HQD := hid (HQC.out.below hB)
            have HAL := hid (jq_all HQD.out (by omega))
            clear hB HSM HQC
            go_wp2_with fail
            refine HAL.out.mono ?_
            rintro e wE ⟨ge, rfl, hO, hQE, hB⟩
            have HQE := hid (HQD.out.row hB hO)
            clear hO hQE hB HAL HQD
            go_wp2_with fail
            go_roundw
            case rel => exact ⟨l.length + 1, N + 2, l2, maybe, false, by omega, by go_num, rfl, by omega, HL2.out, HBM.out.mono (by omega), (HQE.out.sub (by intro r hr; simp at hr ⊢; rcases hr with rfl | rfl <;> simp)).mono (Nat.le_refl _) (fun x h => .inl h) (fun x h => h)⟩
            case measure => simp [intOf]; (try omega)
end Go.Proofs.YtbefmjodpndndaaDoor
