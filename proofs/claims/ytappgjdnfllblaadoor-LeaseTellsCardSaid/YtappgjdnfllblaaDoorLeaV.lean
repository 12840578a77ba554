
/- Lease: a desk's Bytes. -/
import Derived.Test.YtappgjdnfllblaaDoorLeaQ
import Derived.Test.YtappgjdnfllblaaDoorLzC
set_option linter.unusedSimpArgs false
set_option linter.unusedVariables false
namespace Go.Proofs.YtappgjdnfllblaaDoor
open Go.RowKit Go.IntWalk
theorem numsL_len (d : LDk) (z : Int) : (numsL d z).length ≤ 4 ∧ 0 < (numsL d z).length := by
  unfold numsL; split <;> simp
theorem numsL_I {d : LDk} (h : d.Ok) (z : Int) : ∀ x ∈ numsL d z, I64 x := by
  obtain ⟨⟨x1, x2⟩, x3, x4⟩ := h.hb z
  obtain ⟨⟨y1, y2⟩, ⟨y3, y4⟩, ⟨y5, y6⟩, y7, y8⟩ := h.gb z
  intro x hx
  unfold numsL at hx
  split at hx
  · simp only [List.mem_cons, List.not_mem_nil, or_false] at hx
    rcases hx with rfl | rfl | rfl
    · constructor <;> omega
    · constructor <;> omega
    · split <;> simp [I64]
  · simp only [List.mem_cons, List.not_mem_nil, or_false] at hx
    rcases hx with rfl | rfl | rfl | rfl <;> constructor <;> omega
section
variable {w : World} {base b : Nat} {v : Value} {mh mg : Nat} {d : LDk}
set_option maxRecDepth 100000 in
set_option maxHeartbeats 2000000 in
theorem lbytes_any (h : Ld w base b v mh mg d) (ok : d.Ok) (he : Env w) : Calls Tryd.prog 16 #[.pointer (some ⟨b, 0, none⟩)] w fun e w' => e = .returned (.string (bs (encDk d))) ∧ Below w.heap.size w w' := by
  obtain ⟨i1, i2⟩ := ok_I64 ok
  obtain ⟨A, c, e, hcc, hcm, hS⟩ := h.r.slr i2
  subst e
  have hlen := ok.len
  have HNum := hid (fun W (hW : Below w.heap.size w W) (k : Nat) (hk : k < d.home.length) => numbers_any (h.below hW) (z := (k : Int)) (by constructor <;> omega))
  have HInt := hid (fun n hn W (hW : Below w.heap.size w W) => wInt_any n hn W (he.below hW))
  have HMe := hid (fun W (hW : Below w.heap.size w W) => wInt_any d.me i1 W (he.below hW))
  have HNs := hid (fun W (hW : Below w.heap.size w W) => wNums_any A c d.home W (by have := flat_bd encI 22 d.home (fun x hx => encI_le22 x (i2 x hx)); omega) (by omega) ((hS.below hW).more hW.size) (he.below hW))
  have sz1 : (bs (encI d.me)).size ≤ 22 := by rw [bs_size]; exact encI_le22 d.me i1
  have sz2 : (bs (encL (d.home.map encI))).size ≤ 2000 := by
    have := encDh_le ok
    unfold encDh at this
    rw [List.length_append] at this
    rw [bs_size]; omega
  have hcat := hid (show bs (encI d.me) ++ bs (encL (d.home.map encI)) = bs (encDh d.me d.home) by rw [bs_app]; rfl)
  have HAt := hid (fun (wq : World) (hq : Below w.heap.size w wq) => (h.below hq).at_)
  have HL := hid (fun k => numsL_len d k)
  have HI := hid (fun k => numsL_I ok k)
  have HEnd := hid (show encDk d = encDh d.me d.home ++ ((List.range d.home.length).map (encZ d)).flatten from rfl)
  have HSt := hid (fun k => show encDh d.me d.home ++ ((List.range (k + 1)).map (encZ d)).flatten = encDh d.me d.home ++ ((List.range k).map (encZ d)).flatten ++ ((numsL d k).map encI).flatten by rw [List.range_succ]; simp [encZ])
  have HLe := hid (fun k (hk : k ≤ d.home.length) => show (encDh d.me d.home ++ ((List.range k).map (encZ d)).flatten).length ≤ 8000 by
    have := encDh_le ok
    have := encZs_le ok k (by omega)
    rw [List.length_append]; omega)
  have H0 := hid (show encDh d.me d.home ++ ((List.range 0).map (encZ d)).flatten = encDh d.me d.home by simp)
  obtain ⟨F, hF⟩ : ∃ F : Nat → List UInt8, F = fun k => encDh d.me d.home ++ ((List.range k).map (encZ d)).flatten := ⟨_, rfl⟩
  have HEnd2 := hid (show encDk d = F d.home.length by rw [HEnd.out, hF])
  have HSt2 := hid (fun k => show F (k + 1) = F k ++ ((numsL d k).map encI).flatten by rw [hF]; exact HSt.out k)
  have HLe2 := hid (fun k (hk : k ≤ d.home.length) => show (F k).length ≤ 8000 by rw [hF]; exact HLe.out k hk)
  have H02 := hid (show bs (encI d.me) ++ bs (encL (d.home.map encI)) = bs (F 0) by rw [hcat.out, hF]; simp)
  clear HEnd HSt HLe H0 hF hcat hS hcc hcm ok i1 i2
  rw [HEnd2.out]
  generalize numsL d = NL at *
  generalize hm : d.me = me at *
  generalize hh : d.home.length = N at *
  generalize encL (d.home.map encI) = eh at *
  generalize encI me = em at *
  clear hm hh
  have HSF := hid (fun (wq : World) (hq : Below w.heap.size w wq) => (HAt.out wq hq))
  have BD := hid ((Below.refl w.heap.size w).drew)
  have ad : ¬ (9223372036854775807 : Int) < ((bs em).size : Int) + ((bs eh).size : Int) := by omega
  have ad2 : ¬ 9223372036854775807 < (bs em).size + (bs eh).size := by omega
  go_enter Tryd.func16, Tryd.ntmps16
  go_upto_region 1 with fail
  refine wpIn_wide.1 (wpIn_region_S (n := 0) (fun wq => Below w.heap.size w wq) [] (by kernel_rfl) BD.out (fun hHeld => ?_))
  generalize w.drew = wd at *
  refine wpAnyS_pure 0 (v := ?_) (fun _ => trivial) (by simp only [List.getElem?_toArray, List.getElem?_cons_succ, List.getElem?_cons_zero]; rfl) (by kernel_rfl) (fun _ _ _ _ _ h => h) ⟨rfl, (by intro c h; cases h), ?_⟩ hHeld ?_
  rotate_left
  focus (intro wS hSw; (try replace hSw := HSF.out wS hSw); (try dsimp only at hSw); go_simp; (try with_reducible rfl))
  (try simp only [Act.put, List.setIfInBounds_toArray, List.set_cons_zero, List.set_cons_succ])
  refine wpAnyS_pure 1 (v := ?_) (fun _ => trivial) (by simp only [List.getElem?_toArray, List.getElem?_cons_succ, List.getElem?_cons_zero]; rfl) (by kernel_rfl) (fun _ _ _ _ _ h => h) ⟨rfl, (by intro c h; cases h), ?_⟩ hHeld ?_
  rotate_left
  focus (intro wS hSw; (try replace hSw := HSF.out wS hSw); (try dsimp only at hSw); go_simp; (try with_reducible rfl))
  (try simp only [Act.put, List.setIfInBounds_toArray, List.set_cons_zero, List.set_cons_succ])
  refine wpAnyS_pure 2 (v := ?_) (fun _ => trivial) (by simp only [List.getElem?_toArray, List.getElem?_cons_succ, List.getElem?_cons_zero]; rfl) (by kernel_rfl) (fun _ _ _ _ _ h => h) ⟨rfl, (by intro c h; cases h), ?_⟩ hHeld ?_
  rotate_left
  focus (intro wS hSw; (try replace hSw := HSF.out wS hSw); (try dsimp only at hSw); go_simp; (try with_reducible rfl))
  (try simp only [Act.put, List.setIfInBounds_toArray, List.set_cons_zero, List.set_cons_succ])
  refine wpAnyS_take 3 (v := ?_) (fun _ => trivial) (by simp only [List.getElem?_toArray, List.getElem?_cons_succ, List.getElem?_cons_zero]; rfl) (by kernel_rfl) (fun _ _ _ _ _ h => h) ⟨rfl, (by intro c h; cases h), ?_⟩ hHeld ?_
  rotate_left
  focus (intro wS hSw; (try replace hSw := HSF.out wS hSw); (try dsimp only at hSw); go_simp; (try with_reducible rfl))
  (try simp only [Act.put, List.setIfInBounds_toArray, List.set_cons_zero, List.set_cons_succ])
  refine wpAnyS_pure 5 (v := ?_) (fun _ => trivial) (by simp only [List.getElem?_toArray, List.getElem?_cons_succ, List.getElem?_cons_zero]; rfl) (by kernel_rfl) (fun _ _ _ _ _ h => h) ⟨rfl, (by intro c h; cases h), ?_⟩ hHeld ?_
  rotate_left
  focus (intro wS hSw; (try replace hSw := HSF.out wS hSw); (try dsimp only at hSw); go_simp; (try with_reducible rfl))
  (try simp only [Act.put, List.setIfInBounds_toArray, List.set_cons_zero, List.set_cons_succ])
  refine wpAnyS_pure 6 (v := ?_) (fun _ => trivial) (by simp only [List.getElem?_toArray, List.getElem?_cons_succ, List.getElem?_cons_zero]; rfl) (by kernel_rfl) (fun _ _ _ _ _ h => h) ⟨rfl, (by intro c h; cases h), ?_⟩ hHeld ?_
  rotate_left
  focus (intro wS hSw; (try replace hSw := HSF.out wS hSw); (try dsimp only at hSw); go_simp; (try with_reducible rfl))
  (try simp only [Act.put, List.setIfInBounds_toArray, List.set_cons_zero, List.set_cons_succ])
  refine wpAnyS_pure 7 (v := ?_) (fun _ => trivial) (by simp only [List.getElem?_toArray, List.getElem?_cons_succ, List.getElem?_cons_zero]; rfl) (by kernel_rfl) (fun _ _ _ _ _ h => h) ⟨rfl, (by intro c h; cases h), ?_⟩ hHeld ?_
  rotate_left
  focus (intro wS hSw; (try replace hSw := HSF.out wS hSw); (try dsimp only at hSw); go_simp; (try with_reducible rfl))
  (try simp only [Act.put, List.setIfInBounds_toArray, List.set_cons_zero, List.set_cons_succ])
  refine wpAnyS_take 8 (v := ?_) (fun _ => trivial) (by simp only [List.getElem?_toArray, List.getElem?_cons_succ, List.getElem?_cons_zero]; rfl) (by kernel_rfl) (fun _ _ _ _ _ h => h) ⟨rfl, (by intro c h; cases h), ?_⟩ hHeld ?_
  rotate_left
  focus (intro wS hSw; (try replace hSw := HSF.out wS hSw); (try dsimp only at hSw); go_simp; (try with_reducible rfl))
  (try simp only [Act.put, List.setIfInBounds_toArray, List.set_cons_zero, List.set_cons_succ])
  refine wpAnyS_ready [4] (by kernel_rfl) (by simp) (AllReadyS.cons (by simp only [List.getElem?_toArray, List.getElem?_cons_succ, List.getElem?_cons_zero]; rfl) rfl (fun K hK => ?_) AllReadyS.nil)
  refine callS (by intro c h; cases h) (by go_simp; try with_reducible rfl) (HMe.out wd BD.out) ?_
  intro w1 hB1
  have B1 := hid (BD.out.trans (hB1.mono BD.out.size))
  refine hK.out _ _ B1.out ?_
  (try simp only [Act.put, List.setIfInBounds_toArray, List.set_cons_zero, List.set_cons_succ])
  clear hK K hB1 hHeld BD
  have hHeld := B1.out
  refine wpAnyS_ready [9] (by kernel_rfl) (by simp) (AllReadyS.cons (by simp only [List.getElem?_toArray, List.getElem?_cons_succ, List.getElem?_cons_zero]; rfl) rfl (fun K hK => ?_) AllReadyS.nil)
  refine callS (by intro c h; cases h) (by go_simp; try with_reducible rfl) (HNs.out w1 B1.out) ?_
  intro w2 hB2
  have B2 := hid (B1.out.trans (hB2.mono B1.out.size))
  refine hK.out _ _ B2.out ?_
  (try simp only [Act.put, List.setIfInBounds_toArray, List.set_cons_zero, List.set_cons_succ])
  clear hK K hB2 hHeld B1
  have hHeld := B2.out
  refine wpAnyS_pure 10 (v := ?_) (fun _ => trivial) (by simp only [List.getElem?_toArray, List.getElem?_cons_succ, List.getElem?_cons_zero]; rfl) (by kernel_rfl) (fun _ _ _ _ _ h => h) ⟨rfl, (by intro c h; cases h), ?_⟩ hHeld ?_
  rotate_left
  focus (intro wS hSw; (try replace hSw := HSF.out wS hSw); (try dsimp only at hSw); go_simp; (try with_reducible rfl))
  (try simp only [Act.put, List.setIfInBounds_toArray, List.set_cons_zero, List.set_cons_succ])
  rw [H02.out]
  refine wpAnyS_pure 11 (v := ?_) (fun _ => trivial) (by simp only [List.getElem?_toArray, List.getElem?_cons_succ, List.getElem?_cons_zero]; rfl) (by kernel_rfl) (fun _ _ _ _ _ h => h) ⟨rfl, (by intro c h; cases h), ?_⟩ hHeld ?_
  rotate_left
  focus (intro wS hSw; (try replace hSw := HSF.out wS hSw); (try dsimp only at hSw); go_simp; (try with_reducible rfl))
  (try simp only [Act.put, List.setIfInBounds_toArray, List.set_cons_zero, List.set_cons_succ])
  refine wpAnyS_done (by kernel_rfl) ?_
  obtain ⟨d0, d1, d2, d3⟩ := HAt.out w2 B2.out
  clear hHeld HSF HMe HNs H02 sz1 sz2 ad ad2
  go_wp2_with fail
  go_loopw [23, 3] (fun i s wr => ∃ k : Nat, i = .int .i64 k ∧ k ≤ N ∧ s = .string (bs (F k)) ∧ Below w.heap.size w wr) (fun i _ _ => N - (intOf i).toNat)
  case atStart => exact ⟨0, rfl, by omega, rfl, B2.out⟩
  case round =>
    clear B2 d0 d1 d2 d3
    obtain ⟨k, rfl, hk, rfl, hB⟩ := hrel
    have BB := hid hB
    clear hB
    by_cases hkn : k < N
    · have hk1 : wrap64 ((k : Int) + 1) = ((k + 1 : Nat) : Int) := by rw [wrap64_in _ (by omega)]; simp
      have HC := hid (HNum.out wr BB.out k hkn)
      obtain ⟨hL4, hL0⟩ := HL.out (k : Int)
      have HIk := hid (HI.out (k : Int))
      have HSk := hid (HSt2.out k)
      have HLk := hid (HLe2.out k hk)
      generalize hNL : NL (k : Int) = L at *
      clear hNL
      have HK1 := hid hk1
      have HKN := hid hkn
      clear hk1
      go_upto_region 6 with (go_at_call 56; refine HC.out.mono ?_; rintro e w3 ⟨A3, c3, rfl, ho, hB3⟩)
      have B3 := hid (BB.out.trans (hB3.mono BB.out.size))
      obtain ⟨A4, c4, e4, hA4⟩ := ho.form
      injection e4 with e41 e42 e43
      subst e41 e43
      obtain ⟨g, rfl, hg1, hg2, hcell, -⟩ := hA4 (by intro e; rw [e] at hL0; simp at hL0)
      have HCell := hid hcell
      have Hg2 := hid hg2
      clear hB3 ho hcell hg1 hg2 HC BB e42
      generalize wr = wy at *
      go_loopw [30, 3] (fun i s wr => ∃ j : Nat, i = .int .i64 j ∧ j ≤ L.length ∧ s = .string (bs (F k ++ ((L.take j).map encI).flatten)) ∧ Below w3.heap.size w3 wr) (fun i _ _ => L.length - (intOf i).toNat)
      case atStart => exact ⟨0, rfl, by omega, by simp, Below.refl _ _⟩
      case round =>
        obtain ⟨j, rfl, hj, rfl, hB⟩ := hrel
        have BB := hid hB
        clear hB
        by_cases hjn : j < L.length
        · have hj1 : wrap64 ((j : Int) + 1) = ((j + 1 : Nat) : Int) := by rw [wrap64_in _ (by omega)]; simp
          have hcell := (bcell BB.out g j Hg2.out).trans (HCell.out j hjn)
          have BW := hid (B3.out.trans (BB.out.mono B3.out.size))
          have hIj := HIk.out _ (List.getElem_mem hjn)
          have HCI := hid (HInt.out L[j] hIj wr BW.out)
          have hst := hid (show F k ++ ((L.take (j + 1)).map encI).flatten = F k ++ ((L.take j).map encI).flatten ++ encI L[j] by
            rw [List.take_add_one, List.getElem?_eq_getElem hjn, List.map_append, List.flatten_append]; simp)
          have hsl : (F k ++ ((L.take j).map encI).flatten).length ≤ 9000 := by
            have h1 := HLk.out
            have h2 := flat_bd encI 22 (L.take j) (fun x hx => encI_le22 x (HIk.out x (List.mem_of_mem_take hx)))
            have h3 : (L.take j).length ≤ 4 := by rw [List.length_take]; omega
            rw [List.length_append]; omega
          have hie := encI_le22 L[j] hIj
          generalize F k ++ ((L.take j).map encI).flatten = acc at *
          generalize L[j] = x at *
          have ad : ¬ (9223372036854775807 : Int) < ((bs acc).size : Int) + ((bs (encI x)).size : Int) := by rw [bs_size, bs_size]; omega
          have ad2 : ¬ 9223372036854775807 < (bs acc).size + (bs (encI x)).size := by rw [bs_size, bs_size]; omega
          clear hsl hie hIj
          go_wp2_with (go_at_call 60; refine HCI.out.mono ?_; rintro e w5 ⟨rfl, hB5⟩)
          have B5 := hid (BB.out.trans (hB5.mono BB.out.size))
          go_roundw
          case rel => exact ⟨j + 1, by simp [hj1], hjn, by rw [hst.out, ← bs_app], B5.out⟩
          case measure => simp [intOf, hj1]; omega
        · have hjL : j = L.length := by omega
          have hfin := hid (show F k ++ ((L.take j).map encI).flatten = F (k + 1) by rw [hjL, List.take_length, HSk.out])
          rw [hfin.out]
          have B6 := hid (B3.out.trans (BB.out.mono B3.out.size))
          have hk1 := HK1.out
          have hjj : ¬ (j : Int) < (L.length : Int) := by omega
          clear hfin BB B3 HSk HLk HIk
          go_wp2_with fail
          go_roundw
          case rel => exact ⟨k + 1, by simp [hk1], HKN.out, rfl, B6.out⟩
          case measure => have := HKN.out; simp [intOf, hk1]; omega
    · have hkN : k = N := by omega
      subst hkN
      go_wp2_with fail
      go_ret
      exact ⟨rfl, BB.out⟩
end
end Go.Proofs.YtappgjdnfllblaaDoor
