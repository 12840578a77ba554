
/- Journal: JournalCuts, the walk. -/
import Derived.Test.YtbefmjodpndndaaDoorJnCt
set_option linter.unusedSimpArgs false
set_option linter.unusedVariables false
namespace Go.Proofs.YtbefmjodpndndaaDoor
open Go.RowKit Go.IntWalk

theorem big_make (n : Nat) (h : n ≤ 100000000) : ∃ (big : Bs) (cells : Array Value), big.length = n ∧ cells.toList = bcs big ∧ ∀ W, (Instr.makeSlice 29 (.int .i64 (n : Int)) (.int .i64 (n : Int))).run Tryd.prog W = .ok (.slice (some ⟨W.heap.size, 0, none⟩) n n) (W.alloc (.cells cells 5)) := by
  obtain ⟨i0, hi, hz0, hz1, hz2⟩ := info_parts infoU8
  refine ⟨List.replicate n 0, madeCells #[Value.int .u8 0] n, List.length_replicate .., made_bytes n, fun W => ?_⟩
  have := run_make_rowN (P := Tryd.prog) 29 5 i0 _ Tryd.underlying29 hi hz0 .i64 .i64 n n (Nat.le_refl _) (by rw [hz2]; omega) (by omega) W
  rw [hz1, Nat.mul_one] at this
  exact this
theorem big_back (big : Bs) (cells : Array Value) (h : cells.toList = bcs big) (W : World) (g c : Nat) (hb : Blk W g 5 cells) : (convert 29 9 (.slice (some ⟨g, 0, none⟩) big.length c)).run Tryd.prog W = .ok (.string (bs big)) W := by
  refine run_convert_bytes_back (P := Tryd.prog) W 29 9 5 ⟨g, 0, none⟩ c big Tryd.underlying29 Tryd.underlying5 Tryd.underlying9 (fun j hj => ?_)
  have e1 : cells[j]? = cells.toList[j]? := by simp
  rw [addr_at, Nat.zero_add, hb.cell, e1, h]
  simp [bcs, hj]
/-- The one row beside two journals grows. -/
theorem J2.grow {w0 w w' : World} {b : Nat} {jb1 jb2 : Int} {jk1 jk2 : Nat} {l1 l2 : List ByteArray} {N : Nat} {rv rv' : Value} {rl rl' : List ByteArray} (h : J2 w0 w b jb1 jb2 jk1 jk2 l1 l2 N [(rv, rl)]) (hg : w.grownBy w' rv.ownBlock) (ho : strRK.Own w' w0.heap.size rv' rl') (hl : ∀ g, rv'.ownBlock = some g → rv.ownBlock = some g ∨ w.heap.size ≤ g) : J2 w0 w' b jb1 jb2 jk1 jk2 l1 l2 N [(rv', rl')] := by
  obtain ⟨L, s, cb1, cb2, v1, v2, ⟨a1, a2, a3, hM1, hG1, hc1⟩, ⟨d1, d2, d3, hM2, hG2, hc2⟩, h3, h4, h5, h6, h7⟩ := h
  obtain ⟨hr1, hr2⟩ := h4 _ (List.mem_singleton.2 rfl)
  obtain ⟨-, hr3⟩ := h5 _ (List.mem_singleton.2 rfl)
  simp only at hr1 hr2 hr3
  have hC : Chg w w' (fun k => rv.ownBlock = some k) := Chg.of_grown hg (fun k e => e.symm)
  have hlow : ∀ k, rv.ownBlock = some k → w0.heap.size ≤ k := fun k e => (World.ownsRow.lt hr1 k e).1
  have hap1 : ∀ k, JF b cb1 jk1 L v1 k → rv.ownBlock ≠ some k := fun k hk e => by
    obtain ⟨_, cs, hb⟩ := own_blk hr1 k e
    exact hM1.str_apart hb (hr2 k e) hk
  have hap2 : ∀ k, JF b cb2 jk2 L v2 k → rv.ownBlock ≠ some k := fun k hk e => by
    obtain ⟨_, cs, hb⟩ := own_blk hr1 k e
    exact hM2.str_apart hb (hr3 k e) hk
  have hE := hM1.E.chg hC hlow
  have hD := hM1.H.chg hC (fun k hk => hap1 k (.inl hk))
  have hrow : ∀ (v : Value), (∀ g, rv.ownBlock = some g → v.ownBlock ≠ some g) → (∀ g, v.ownBlock = some g → g < w.heap.size) → Rows w' w0.heap.size v [(rv', rl')] := fun v hv hlt r hr => by
    rw [List.mem_singleton] at hr
    subst hr
    refine ⟨ho, fun g hg e => ?_⟩
    rcases hl g hg with h6 | h6
    · exact hv g h6 e
    · have := hlt g e; omega
  exact ⟨L, s, cb1, cb2, v1, v2, ⟨a1, a2, a3, ⟨hD, hC.blk hM1.X (hap1 _ (.inr (.inl rfl))), hC.blk hM1.J (hap1 _ (.inr (.inr (.inl rfl)))), hM1.l.kept (fun g cs hv hb => hC.blk hb (hap1 g (.inr (.inr (.inr hv))))), hM1.hj, hM1.hc, hE⟩, hG1, hc1⟩, ⟨d1, d2, d3, ⟨hD, hC.blk hM2.X (hap2 _ (.inr (.inl rfl))), hC.blk hM2.J (hap2 _ (.inr (.inr (.inl rfl)))), hM2.l.kept (fun g cs hv hb => hC.blk hb (hap2 g (.inr (.inr (.inr hv))))), hM2.hj, hM2.hc, hE⟩, hG2, hc2⟩, h3, hrow v1 hr2 (fun g hg => (hM1.l.blk hg).2.1), hrow v2 hr3 (fun g hg => (hM2.l.blk hg).2.1), hC.low h6 hlow, h7⟩
set_option maxRecDepth 100000 in
set_option maxHeartbeats 4000000 in
theorem jcuts_any (A1 A2 : Option Addr) (c1 c2 : Nat) (l bb : List ByteArray) (n : Int) (w : World) (hl0 : l.length ≤ c1) (hc0 : c1 ≤ maxLen) (hl : l.length ≤ maxLen) (hbb : bb.length ≤ maxLen) (hn : I64 n) (hs1 : SlR w w.heap.size A1 l) (hs2 : SlR w w.heap.size A2 bb) (he : Env w) (hO : OffE w) :
    Calls Tryd.prog 4 #[.slice A1 l.length c1, .int .i64 n, .slice A2 bb.length c2] w fun e w' => e = .returned (.bool true) ∧ Below w.heap.size w w' := by
  have HSM := hid (jsmall_any w he hO)
  have HEB := hid (EB.of he hO)
  have HS1 := hid hs1; have HS2 := hid hs2
  have hl' := hl; have hbb' := hbb; have hc0' := hc0
  unfold maxLen at hl' hbb' hc0'
  have HL := hid (And.intro hl hbb)
  have HN := hid hn
  clear he hO hs1 hs2 hl hbb hn hc0
  go_enter Tryd.func4, Tryd.ntmps4
  go_wp2_with fail
  refine HSM.out.mono ?_
  rintro e w1 ⟨rfl, hB⟩
  have B1 := hid hB
  have HF := texts_any A1 c1 l w1 HL.out.1 ((HS1.out.below hB).more hB.size)
  have HT := texts_any A2 c2 bb w1 HL.out.2 ((HS2.out.below hB).more hB.size)
  obtain ⟨rf, hrf⟩ : ∃ r, r = textsL l := ⟨_, rfl⟩
  obtain ⟨rt, hrt⟩ : ∃ r, r = textsL bb := ⟨_, rfl⟩
  rw [← hrf] at HF
  rw [← hrt] at HT
  have HF := hid HF; have HT := hid HT; have HRF := hid hrf; have HRT := hid hrt
  clear hrf hrt hB HSM
  cases rf with
  | false =>
    go_wp2_with fail
    refine HF.out.mono ?_
    rintro e w2 ⟨rfl, rfl⟩
    go_wp2_with fail
    go_ret
    exact ⟨rfl, B1.out⟩
  | true =>
  cases rt with
  | false =>
    go_wp2_with fail
    refine HF.out.mono ?_
    rintro e w2 ⟨rfl, rfl⟩
    go_wp2_with fail
    refine HT.out.mono ?_
    rintro e w2 ⟨rfl, rfl⟩
    go_wp2_with fail
    go_ret
    exact ⟨rfl, B1.out⟩
  | true =>
  have HLS := hid (show Bd 8 l from by have := textsL_iff.1 HRF.out.symm; exact ⟨this.2, this.1⟩)
  have HYS := hid (show Bd 8 bb from by have := textsL_iff.1 HRT.out.symm; exact ⟨this.2, this.1⟩)
  have hl8 := HLS.out.1
  have hb8 := HYS.out.1
  have HLA := hid (show ∀ ad, A1 = some ad → 0 < l.length → ad.block < w.heap.size from fun ad e h0 => by
    obtain ⟨g, off, hA, hg, _⟩ := strRK.elem HS1.out h0
    rw [e] at hA; injection hA with hA; rw [hA]; exact hg)
  have HBA := hid (show ∀ ad, A2 = some ad → 0 < bb.length → ad.block < w.heap.size from fun ad e h0 => by
    obtain ⟨g, off, hA, hg, _⟩ := strRK.elem HS2.out h0
    rw [e] at hA; injection hA with hA; rw [hA]; exact hg)
  clear HRF HRT
  go_wp2_with fail
  refine HF.out.mono ?_
  rintro e w2 ⟨rfl, rfl⟩
  go_wp2_with fail
  refine HT.out.mono ?_
  rintro e w2 ⟨rfl, rfl⟩
  go_wp2_with fail
  refine (dnew_any w1).mono ?_
  rintro e w2 ⟨b, L0, rfl, hD, hB⟩
  have hB2 := B1.out.trans (hB.mono B1.out.size)
  have hD2 := hD.low_ B1.out.size
  have HOP := hid (jopen_safe b w.heap.size L0 ds0 0 0 (fun l => l = []) w2 hD2 (HEB.out.below hB2) rfl (by omega) (by omega) (safe_new 0) (fun l h => by rw [h]; exact Bd.nil _) (by omega) hB2.size)
  have HD2 := hid hD2
  have HB2 := hid hB2
  clear hD hB HF HT B1 hB2 hD2
  go_wp2_with fail
  refine HOP.out.mono ?_
  rintro e w3 ⟨L3, s3, hD3, hC3, hlo3, hsh3, hres⟩
  rcases hres with ⟨ec, _, h, _⟩ | ⟨jk1, cb1, v1, l1, sl1, cv1, hl1, rfl, p1, p2, p3, hM1, hG1, hcm1, hf1⟩
  · exact absurd calm_new h
  subst hl1
  have hB3 := hC3.low HB2.out (fun k hk => (HD2.out.lt hk).1)
  have HOP2 := hid (jopen_safe b w.heap.size L3 s3 2 2 (fun l => l = []) w3 hD3 hM1.E hG1.up (by omega) (by omega) ((safe_new 2).shr hsh3) (fun l h => by rw [h]; exact Bd.nil _) (by omega) hB3.size)
  have HC3 := hid (hcm1 calm_new)
  have HB3 := hid hB3
  have HM1 := hid hM1; have HG1 := hid hG1; have HD3 := hid hD3
  clear hD3 hC3 hlo3 hsh3 p1 p2 p3 hM1 hG1 hcm1 hf1 HOP hB3
  go_wp2_with fail
  refine HOP2.out.mono ?_
  rintro e w4 ⟨L4, s4, hD4, hC4, hlo4, hsh4, hres⟩
  rcases hres with ⟨ec, _, h, _⟩ | ⟨jk2, cb2, v2, l2, sl2, cv2, hl2, rfl, p1, p2, p3, hM2, hG2, hcm2, hf2⟩
  · exact absurd HC3.out h
  subst hl2
  have K4 := hid (show J2 w w4 b 0 2 jk1 jk2 [] [] 4 [] from by
    have hc4 := hcm2 HC3.out
    refine ⟨L4, s4, cb1, cb2, v1, v2, ⟨_, _, _, HM1.out.dsk hD4 hC4, HG1.out.shr_ hsh4 hf2 hc4.2.2, hc4⟩, ⟨_, _, _, hM2, hG2, hc4⟩, ?_, fun r h => (by cases h), fun r h => (by cases h), hC4.low HB3.out (fun k hk => (HD3.out.lt hk).1), ⟨by omega, by omega, by omega, by omega⟩, by omega, by omega⟩
    intro k h1 h2
    have e1 : k < w3.heap.size := by
      rcases h1 with rfl | rfl | h1
      · exact HM1.out.X.lt
      · exact HM1.out.J.lt
      · exact (HM1.out.l.blk h1).2.1
    rcases h2 with rfl | rfl | h2
    · omega
    · omega
    · have := p3 k h2; omega)
  clear hD4 hC4 hlo4 hsh4 p1 p2 p3 hM2 hG2 hcm2 hf2 HOP2 HC3 HM1 HG1 HD3 HD2 HB2 HB3
  have HA := hid (j2_app K4.out A1 c1 l ((HS1.out.below K4.out.low).more K4.out.low.size) (fun ad e h0 => .inl (HLA.out ad e h0)) (Bd.nil _) HLS.out (by omega))
  go_wp2_with fail
  refine HA.out.mono ?_
  rintro e w5 ⟨rfl, hJ⟩
  rw [List.nil_append] at hJ
  have K5 := hid hJ
  clear hJ HA K4
  go_wp2_with fail
  go_loopw [13] (fun iv wr => ∃ k : Nat, k ≤ l.length ∧ iv = .int .i64 (k : Nat) ∧ J2 w wr b 0 2 jk1 jk2 l (l.take k) (4004 + 4000 * k) []) (fun iv _ => l.length - (intOf iv).toNat)
  case atStart => exact ⟨0, by omega, rfl, by simpa using K5.out⟩
  case round =>
    clear K5
    obtain ⟨k, hk, rfl, hJ⟩ := hrel
    have HJ := hid hJ
    have HB := hid hJ.low
    clear hJ
    by_cases hlt : k < l.length
    case pos =>
      have hltI : (k : Int) < (l.length : Int) := by omega
      obtain ⟨g, off, hA1, hg, hcl⟩ := HS1.out.str hlt
      replace hcl := (bcell HB.out g _ hg).trans hcl
      have hgw := Nat.lt_of_lt_of_le hg HB.out.size
      subst hA1
      have HTK := hid (show l.take (k + 1) = l.take k ++ [l[k]] from by rw [List.take_add_one, List.getElem?_eq_getElem hlt]; rfl)
      have HX := hid (HLS.out.2 _ (List.getElem_mem hlt))
      generalize l[k] = x at *
      have BX := hid (show Below wr.heap.size wr (wr.alloc (Obj.cells #[Value.string x] 9)) by (repeat (first | exact Below.refl _ _ | assumption | refine below_drewN ?_ _ | refine Below.drew ?_ | refine Below.alloc ?_ (by (try simp); (try omega)) _ | refine Below.setCell ?_ (by (try simp); (try omega)) _)))
      have SX := hid (show SlR (wr.alloc (Obj.cells #[Value.string x] 9)) (wr.alloc (Obj.cells #[Value.string x] 9)).heap.size (some ⟨wr.heap.size, 0, none⟩) ([x] : List ByteArray) from slr_new wr [x] (by intro y hy; rw [List.mem_singleton] at hy; rw [hy]; have := HX.out; unfold maxLen; omega))
      have JX := hid (((HJ.out.row BX.out (rv := .slice (some ⟨wr.heap.size, 0, none⟩) 1 1) (rl := [x]) (RK.Own.fresh (l := [x]) (Blk.new wr _ _) (Nat.le_refl _) (by show 1 ≤ maxLen; unfold maxLen; omega)))).swap ⟨by omega, by omega⟩)
      have HA := hid (j2_app JX.out (some ⟨wr.heap.size, 0, none⟩) 1 [x] SX.out (fun ad e _ => by injection e with e; subst e; exact .inr ⟨_, List.mem_singleton.2 rfl, rfl⟩) ((HLS.out.take k).mono (by omega)) ⟨by show 1 ≤ 8; omega, fun y hy => by rw [List.mem_singleton] at hy; rw [hy]; exact HX.out⟩ (by omega))
      go_wp2_with fail
      refine HA.out.mono ?_
      rintro e w6 ⟨rfl, hJ⟩
      have HJ6 := hid ((hJ.swap ⟨by omega, by omega⟩).sub (rows' := []) (by simp))
      clear hJ HA JX SX BX
      go_wp2_with fail
      go_roundw
      case rel => exact ⟨k + 1, by omega, by go_num, by rw [HTK.out]; exact HJ6.out⟩
      case measure => simp [intOf]; omega
    case neg =>
      obtain rfl : k = l.length := by omega
      have HJ5 := hid (show J2 w wr b 0 2 jk1 jk2 l l (4004 + 4000 * l.length) [] from by have := HJ.out; rwa [List.take_length] at this)
      have hge : ¬ (l.length : Int) < (l.length : Int) := by omega
      obtain ⟨N, hN⟩ : ∃ N, N = 4004 + 4000 * l.length := ⟨_, rfl⟩
      have hNb : N ≤ 40000 := by omega
      rw [← hN] at HJ5
      clear HJ hN
      by_cases hin : 0 ≤ n ∧ n ≤ (l.length : Int)
      case pos =>
        as_aux_lemma =>
          have hc1 := j2_cut HJ5.out n HN.out (HLS.out.mono (by omega)) (by omega)
          rw [if_pos hin, if_pos hin] at hc1
          have HC1 := hid hc1
          clear hc1
          have hn0 := hin.1
          have hn1 := hin.2
          go_upto_region 17 with fail
          go_wp2_with fail
          refine HC1.out.mono ?_
          rintro e w6 ⟨rfl, hJ⟩
          have hc2 := j2_cut (hJ.swap ⟨by omega, by omega⟩) n HN.out (HLS.out.mono (by omega)) (by omega)
          rw [if_pos hin, if_pos hin] at hc2
          have HC2 := hid hc2
          clear hJ hc2 HC1
          go_wp2_with fail
          refine HC2.out.mono ?_
          rintro e w7 ⟨rfl, hJ⟩
          have J7 := hid (hJ.swap ⟨by omega, by omega⟩)
          clear hJ HC2 HJ5
          have B8 := hid (show Below w7.heap.size w7 (w7.alloc (Obj.cells #[] 9)) by (repeat (first | exact Below.refl _ _ | assumption | refine below_drewN ?_ _ | refine Below.drew ?_ | refine Below.alloc ?_ (by (try simp); (try omega)) _ | refine Below.setCell ?_ (by (try simp); (try omega)) _)))
          have O8 := hid (show strRK.Own (w7.alloc (Obj.cells #[] 9)) w7.heap.size (.slice (some ⟨w7.heap.size, 0, none⟩) 0 0) [] from RK.Own.fresh (l := []) (Blk.new w7 _ _) (Nat.le_refl _) (by simp))
          have S8 := hid (show SlR (w7.alloc (Obj.cells #[] 9)) (w7.alloc (Obj.cells #[] 9)).heap.size A1 l from (HS1.out.below (J7.out.low.trans (B8.out.mono J7.out.low.size))).more (Nat.le_trans J7.out.low.size B8.out.size))
          have hok0 := hid (show ∀ x ∈ ([] : List ByteArray), x.size ≤ maxLen by simp)
          have hle0 := hid (show ([] : List ByteArray).length + l.length ≤ 100000000 by simp; omega)
          have hb8s := hid B8.out.size
          go_upto_region 20 with (at_builtin; refine row_appL rfl (.tmp 88) (.tmp 89) rfl rfl O8.out hok0.out rfl S8.out hle0.out hb8s.out ?_; intro A9 c9 w9 hO9 hg9 hl9; have O9a := hid hO9; have G9 := hid hg9; clear hO9 hg9 hl9)
          have O9 := O9a.out
          simp only [List.length_nil, Nat.zero_add, List.nil_append] at O9 ⊢
          have O9 := hid O9
          have B9 := hid (show Below w7.heap.size w7 w9 from B8.out.grown (show (w7.alloc (Obj.cells #[] 9)).grownBy w9 (some w7.heap.size) from G9.out) hb8s.out (fun q e => by injection e with e; omega))
          clear O9a G9 O8 S8 B8 hb8s hle0

          obtain ⟨tk, htk⟩ : ∃ tk, tk = l.take n.toNat := ⟨_, rfl⟩
          have htl : (tk.length : Int) = n := by rw [htk, List.length_take]; omega
          have J9 := hid (show J2 w w9 b 0 2 jk1 jk2 tk tk (N + 4000 + 4000) [] from by have := J7.out.below B9.out; rwa [← htk] at this)
          have HTL := hid (show Bd 8 tk from by rw [htk]; exact HLS.out.take _)
          have hmm : min (max n 0) (l.length : Int) = (tk.length : Int) := by omega
          have htc : tk.length ≤ l.length := by omega
          have B10 := hid (show Below w9.heap.size w9 (w9.alloc (Obj.cells #[] 9)) by (repeat (first | exact Below.refl _ _ | assumption | refine below_drewN ?_ _ | refine Below.drew ?_ | refine Below.alloc ?_ (by (try simp); (try omega)) _ | refine Below.setCell ?_ (by (try simp); (try omega)) _)))
          have O10 := hid (show strRK.Own (w9.alloc (Obj.cells #[] 9)) w9.heap.size (.slice (some ⟨w9.heap.size, 0, none⟩) 0 0) [] from RK.Own.fresh (l := []) (Blk.new w9 _ _) (Nat.le_refl _) (by simp))
          have S10 := hid (show SlR (w9.alloc (Obj.cells #[] 9)) (w9.alloc (Obj.cells #[] 9)).heap.size A1 tk from by rw [htk]; exact ((HS1.out.below (J9.out.low.trans (B10.out.mono J9.out.low.size))).more (Nat.le_trans J9.out.low.size B10.out.size)).take1 _)
          have hle0 := hid (show ([] : List ByteArray).length + tk.length ≤ 100000000 by simp; omega)
          have hb10s := hid B10.out.size
          have HTKE := hid htl
          clear htk htl J7 B9 O9
          go_upto_region 22 with (at_builtin; refine row_appL rfl (.tmp 92) (.tmp 99) rfl rfl O10.out hok0.out rfl S10.out hle0.out hb10s.out ?_; intro A11 c11 w11 hO11 hg11 hl11; have O11a := hid hO11; have G11 := hid hg11; clear hO11 hg11 hl11)
          have O11 := O11a.out
          simp only [List.length_nil, Nat.zero_add, List.nil_append] at O11 ⊢
          have B11 := hid (show Below w9.heap.size w9 w11 from B10.out.grown (show (w9.alloc (Obj.cells #[] 9)).grownBy w11 (some w9.heap.size) from G11.out) hb10s.out (fun q e => by injection e with e; omega))
          have J11 := hid (J9.out.row B11.out O11)
          clear O11a G11 O10 S10 B10 hb10s hle0 J9 B11 O11 hmm

          have HOKT := hid HTL.out.max_
          have HA1 := hid (j2_app J11.out A2 c2 bb ((HS2.out.below J11.out.low).more J11.out.low.size) (fun ad e h0 => .inl (HBA.out ad e h0)) (HTL.out.mono (by omega)) HYS.out (by omega))
          go_wp2_with fail
          refine HA1.out.mono ?_
          rintro e w12 ⟨rfl, hJ⟩
          have J12 := hid (hJ.swap ⟨by omega, by omega⟩)
          have HA2 := hid (j2_app J12.out A2 c2 bb ((HS2.out.below J12.out.low).more J12.out.low.size) (fun ad e h0 => .inl (HBA.out ad e h0)) (HTL.out.mono (by omega)) HYS.out (by omega))
          clear hJ HA1
          go_wp2_with fail
          refine HA2.out.mono ?_
          rintro e w13 ⟨rfl, hJ⟩
          have J13 := hid (hJ.swap ⟨by omega, by omega⟩)
          clear hJ HA2 J12
          obtain ⟨big, cells, hbl, hcl, hmk⟩ := big_make 1048576 (by omega)
          have hmk2 : ∀ W, (Instr.makeSlice 29 (.int .i64 1048576) (.int .i64 1048576)).run Tryd.prog W = .ok (.slice (some ⟨W.heap.size, 0, none⟩) 1048576 1048576) (W.alloc (.cells cells 5)) := hmk
          have hcv := big_back big cells hcl (w13.alloc (.cells cells 5)) w13.heap.size 1048576 (Blk.new w13 _ _)
          rw [hbl] at hcv
          obtain ⟨x, hx⟩ : ∃ x, x = bs big := ⟨_, rfl⟩
          have HXS := hid (show x.size = 1048576 by rw [hx, bs_size, hbl])
          rw [← hx] at hcv
          have B14 := hid (show Below w13.heap.size w13 (w13.alloc (.cells cells 5)) by (repeat (first | exact Below.refl _ _ | assumption | refine below_drewN ?_ _ | refine Below.drew ?_ | refine Below.alloc ?_ (by (try simp); (try omega)) _ | refine Below.setCell ?_ (by (try simp); (try omega)) _)))
          clear hbl hcl hmk hx
          have BX := hid (show Below (w13.alloc (.cells cells 5)).heap.size (w13.alloc (.cells cells 5)) ((w13.alloc (.cells cells 5)).alloc (Obj.cells #[Value.string x] 9)) by (repeat (first | exact Below.refl _ _ | assumption | refine below_drewN ?_ _ | refine Below.drew ?_ | refine Below.alloc ?_ (by (try simp); (try omega)) _ | refine Below.setCell ?_ (by (try simp); (try omega)) _)))
          have SX := hid (show SlR ((w13.alloc (.cells cells 5)).alloc (Obj.cells #[Value.string x] 9)) ((w13.alloc (.cells cells 5)).alloc (Obj.cells #[Value.string x] 9)).heap.size (some ⟨(w13.alloc (.cells cells 5)).heap.size, 0, none⟩) ([x] : List ByteArray) from slr_new _ [x] (by intro y hy; rw [List.mem_singleton] at hy; rw [hy]; have := HXS.out; unfold maxLen; omega))
          have JX := hid ((J13.out.below B14.out).row BX.out (rv := .slice (some ⟨(w13.alloc (.cells cells 5)).heap.size, 0, none⟩) 1 1) (rl := [x]) (RK.Own.fresh (l := [x]) (Blk.new (w13.alloc (.cells cells 5)) _ _) (Nat.le_refl _) (by show 1 ≤ maxLen; unfold maxLen; omega)))
          have hz3 : (w13.alloc (.cells cells 5)).heap.size = w13.heap.size + 1 := by simp
          have ha3 := (j2_full JX.out (some ⟨(w13.alloc (.cells cells 5)).heap.size, 0, none⟩) 1 x SX.out (fun ad e => by injection e with e; subst e; exact .inr ⟨_, List.mem_cons_self .., rfl⟩) ((HTL.out.app HYS.out).mono (by omega)) HXS.out (by omega))
          rw [hz3] at ha3
          have HA3 := hid ha3
          clear ha3 hz3
          go_wp2_with fail
          refine HA3.out.mono ?_
          rintro e w14 ⟨rfl, hJ⟩
          have J14 := hid (hJ.sub (rows' := [(.slice A11 tk.length c11, tk)]) (by intro r hr; rw [List.mem_singleton] at hr; rw [hr]; exact List.mem_cons_of_mem _ (List.mem_cons_self ..)))
          clear hJ HA3 JX SX BX B14 hmk2 hcv J13 J11
          have hro := J14.out.rows_ _ (List.mem_singleton.2 rfl)
          simp only at hro
          have HRO := hid hro
          have SB14 := hid (show SlR w14 w14.heap.size A2 bb from (HS2.out.below J14.out.low).more J14.out.low.size)
          have hle1 := hid (show tk.length + bb.length ≤ 100000000 by omega)
          have hb14 := hid J14.out.low.size
          clear hro
          go_upto_region 25 with (at_builtin; refine row_appL rfl (.tmp 119) (.tmp 120) rfl rfl HRO.out HOKT.out rfl SB14.out hle1.out hb14.out ?_; intro A15 c15 w15 hO15 hg15 hl15; have O15 := hid hO15; have G15 := hid hg15; have L15 := hid hl15; clear hO15 hg15 hl15)
          obtain ⟨lw, hlw⟩ : ∃ lw, lw = tk ++ bb := ⟨_, rfl⟩
          have hlen : tk.length + bb.length = lw.length := by rw [hlw, List.length_append]
          have hJ15 := J14.out.grow G15.out O15.out L15.out
          rw [hlen, ← hlw] at hJ15
          rw [hlen]
          have J15 := hid hJ15
          have HLW := hid (show Bd 16 lw from by rw [hlw]; exact (HTL.out.app HYS.out).mono (by omega))
          have hlw16 := HLW.out.1
          clear hJ15 hlen hlw J14 HRO SB14 hle1 hb14 O15 G15 L15
          obtain ⟨N5, hN5⟩ : ∃ n, n = N + 4000 + 4000 + 4000 + 4000 + 7000000 := ⟨_, rfl⟩
          rw [← hN5] at J15
          clear hN5
          go_wp2_with fail
          go_loopw [16] (fun iv wr => ∃ k : Nat, k ≤ lw.length ∧ iv = .int .i64 (k : Nat) ∧ J2 w wr b 0 2 jk1 jk2 lw lw N5 [(.slice A15 lw.length c15, lw)]) (fun iv _ => lw.length - (intOf iv).toNat)
          case atStart => exact ⟨0, by omega, rfl, J15.out⟩
          case round =>
            clear J15
            obtain ⟨k, hk, rfl, hJ⟩ := hrel
            have HJ := hid hJ
            have HOKL := hid HLW.out.max_
            have hro := hJ.rows_ _ (List.mem_singleton.2 rfl)
            simp only at hro
            have HRO := hid hro
            obtain ⟨cbx, vx, hjr⟩ := hJ.jr1
            have HJR := hid hjr
            obtain ⟨cby, vy, hjr2⟩ := hJ.jr2
            have HJR2 := hid hjr2
            clear hJ hro hjr hjr2
            by_cases hlt : k < lw.length
            case pos =>
              as_aux_lemma =>
                have hltI : (k : Int) < (lw.length : Int) := by omega
                obtain ⟨g, off, hA, hg, hcl⟩ := (own_slr HRO.out HOKL.out).str hlt
                have hge : getB lw (k : Int) = lw[k] := by
                  unfold getB
                  rw [if_neg (by omega), Int.toNat_natCast, List.getD_eq_getElem?_getD, List.getElem?_eq_getElem hlt]
                  rfl
                generalize lw[k] = x at *
                subst hA
                have HGE := hid hge
                clear hge
                go_upto_region 28 with fail
                have HSF := hid (fun (wq : World) (hq : Below wr.heap.size wr wq) => show wq.cell? ⟨g, off + k, none⟩ = some (.string x) from (bcell hq g _ hg).trans hcl)
                have BD := hid ((Below.refl wr.heap.size wr).drew)
                refine wpIn_wide.1 (wpIn_region_S (n := 0) (fun wq => Below wr.heap.size wr wq) [] (by kernel_rfl) BD.out (fun hHeld => ?_))
                have HG := hid (fun (W : World) (hW : Below wr.heap.size wr W) => show Calls Tryd.prog 22 #[.pointer (some ⟨jk1, 0, none⟩), .int .i64 (k : Int)] W fun e w' => e = .returned (.string x) ∧ Below W.heap.size W w' from by
                  rw [← HGE.out]
                  exact get_any w.heap.size jk1 b cbx 0 vx lw false (k : Int) W ⟨HJR.out.j.below hW HJR.out.j.lt, HJR.out.l.below hW⟩)
                generalize wr.drew = wd at *
                refine wpAnyS_pure 0 (v := ?_) (fun _ => trivial) (by simp only [List.getElem?_toArray, List.getElem?_cons_succ, List.getElem?_cons_zero]; rfl) (by kernel_rfl) (fun _ _ _ _ _ h => h) ⟨rfl, (by intro c h; cases h), ?_⟩ hHeld ?_
                rotate_left
                focus (intro wS hSw; (try replace hSw := HSF.out wS hSw); (try dsimp only at hSw); go_simp; (try with_reducible rfl))
                (try simp only [Act.put, List.setIfInBounds_toArray, List.set_cons_zero, List.set_cons_succ])
                refine wpAnyS_pure 1 (v := ?_) (fun _ => trivial) (by simp only [List.getElem?_toArray, List.getElem?_cons_succ, List.getElem?_cons_zero]; rfl) (by kernel_rfl) (fun _ _ _ _ _ h => h) ⟨rfl, (by intro c h; cases h), ?_⟩ hHeld ?_
                rotate_left
                focus (intro wS hSw; (try replace hSw := HSF.out wS hSw); (try dsimp only at hSw); go_simp; (try with_reducible rfl))
                (try simp only [Act.put, List.setIfInBounds_toArray, List.set_cons_zero, List.set_cons_succ])
                refine wpAnyS_pure 3 (v := ?_) (fun _ => trivial) (by simp only [List.getElem?_toArray, List.getElem?_cons_succ, List.getElem?_cons_zero]; rfl) (by kernel_rfl) (fun _ _ _ _ _ h => h) ⟨rfl, (by intro c h; cases h), ?_⟩ hHeld ?_
                rotate_left
                focus (intro wS hSw; (try replace hSw := HSF.out wS hSw); (try dsimp only at hSw); go_simp; (try with_reducible rfl))
                (try simp only [Act.put, List.setIfInBounds_toArray, List.set_cons_zero, List.set_cons_succ])
                refine wpAnyS_pure 4 (v := ?_) (fun _ => trivial) (by simp only [List.getElem?_toArray, List.getElem?_cons_succ, List.getElem?_cons_zero]; rfl) (by kernel_rfl) (fun _ _ _ _ _ h => h) ⟨rfl, (by intro c h; cases h), ?_⟩ hHeld ?_
                rotate_left
                focus (intro wS hSw; (try replace hSw := HSF.out wS hSw); (try dsimp only at hSw); go_simp; (try with_reducible rfl))
                (try simp only [Act.put, List.setIfInBounds_toArray, List.set_cons_zero, List.set_cons_succ])
                refine wpAnyS_take 5 (v := ?_) (fun _ => trivial) (by simp only [List.getElem?_toArray, List.getElem?_cons_succ, List.getElem?_cons_zero]; rfl) (by kernel_rfl) (fun _ _ _ _ _ h => h) ⟨rfl, (by intro c h; cases h), ?_⟩ hHeld ?_
                rotate_left
                focus (intro wS hSw; (try replace hSw := HSF.out wS hSw); (try dsimp only at hSw); go_simp; (try with_reducible rfl))
                (try simp only [Act.put, List.setIfInBounds_toArray, List.set_cons_zero, List.set_cons_succ])
                refine wpAnyS_take 6 (v := ?_) (fun _ => trivial) (by simp only [List.getElem?_toArray, List.getElem?_cons_succ, List.getElem?_cons_zero]; rfl) (by kernel_rfl) (fun _ _ _ _ _ h => h) ⟨rfl, (by intro c h; cases h), ?_⟩ hHeld ?_
                rotate_left
                focus (intro wS hSw; (try replace hSw := HSF.out wS hSw); (try dsimp only at hSw); go_simp; (try with_reducible rfl))
                (try simp only [Act.put, List.setIfInBounds_toArray, List.set_cons_zero, List.set_cons_succ])
                refine wpAnyS_ready [2] (by kernel_rfl) (by simp) (AllReadyS.consG (by simp only [List.getElem?_toArray, List.getElem?_cons_succ, List.getElem?_cons_zero]; rfl) (by rfl) (fun K hK => ?_) AllReadyS.nil)
                refine callS (by intro c h; cases h) (by go_simp; try with_reducible rfl) (HG.out wd BD.out) ?_
                intro w16 hBq
                have B16 := hid (BD.out.trans (hBq.mono BD.out.size))
                refine hK.out _ _ B16.out ?_
                (try simp only [Act.put, List.setIfInBounds_toArray, List.set_cons_zero, List.set_cons_succ])
                clear hK K hBq
                clear hHeld
                have hHeld := B16.out
                refine wpAnyS_pure 7 (v := ?_) (fun _ => trivial) (by simp only [List.getElem?_toArray, List.getElem?_cons_succ, List.getElem?_cons_zero]; rfl) (by kernel_rfl) (fun _ _ _ _ _ h => h) ⟨rfl, (by intro c h; cases h), ?_⟩ hHeld ?_
                rotate_left
                focus (intro wS hSw; (try replace hSw := HSF.out wS hSw); (try dsimp only at hSw); go_simp; (try with_reducible rfl))
                (try simp only [Act.put, List.setIfInBounds_toArray, List.set_cons_zero, List.set_cons_succ])
                refine wpAnyS_done (by kernel_rfl) ?_
                have HJ16 := hid (HJ.out.below B16.out)
                clear HSF hHeld HG BD B16 hcl HGE
                go_wp2_with fail
                go_roundw
                case rel => exact ⟨k + 1, by omega, by go_num, HJ16.out⟩
                case measure => simp [intOf]; omega
            case neg =>
              obtain rfl : k = lw.length := by omega
              as_aux_lemma =>
                have HA1 := hid (all_any w.heap.size jk1 b cbx 0 vx lw false wr HJR.out (by omega))
                go_wp2_with fail
                refine HA1.out.mono ?_
                rintro e wA ⟨gc, rfl, -, hO, hB⟩
                have hsm := same_rows hO (HRO.out.below hB) HOKL.out HOKL.out (by unfold maxLen; omega) (by unfold maxLen; omega)
                rw [decide_eq_true rfl] at hsm
                have HSM := hid hsm
                have BA := hid hB
                clear hO hB HA1 hsm
                go_wp2_with fail
                refine HSM.out.mono ?_
                rintro e wB ⟨rfl, hB⟩
                have BB := hid (BA.out.trans (hB.mono BA.out.size))
                have HA2 := hid (all_any w.heap.size jk2 b cby 2 vy lw false wB ⟨HJR2.out.j.below BB.out HJR2.out.j.lt, HJR2.out.l.below BB.out⟩ (by omega))
                clear hB HSM BA
                go_wp2_with fail
                refine HA2.out.mono ?_
                rintro e wC ⟨gd, rfl, -, hO, hB⟩
                have BC := hid (BB.out.trans (hB.mono BB.out.size))
                have hsm := same_rows hO (HRO.out.below BC.out) HOKL.out HOKL.out (by unfold maxLen; omega) (by unfold maxLen; omega)
                rw [decide_eq_true rfl] at hsm
                have HSM := hid hsm
                clear hO hB HA2 hsm BB
                go_wp2_with fail
                refine HSM.out.mono ?_
                rintro e wD ⟨rfl, hB⟩
                have BD := hid (BC.out.trans (hB.mono BC.out.size))
                have HG := hid (fun (W : World) (hW : Below wr.heap.size wr W) (i : Int) (hi : i < 0 ∨ (lw.length : Int) ≤ i) => show Calls Tryd.prog 22 #[.pointer (some ⟨jk1, 0, none⟩), .int .i64 i] W fun e w' => e = .returned (.string { data := #[] }) ∧ Below W.heap.size W w' from by
                  have e1 : getB lw i = { data := #[] } := by
                    unfold getB
                    split
                    · rfl
                    · rw [List.getD_eq_getElem?_getD, List.getElem?_eq_none_iff.2 (by omega)]; rfl
                  rw [← e1]
                  exact get_any w.heap.size jk1 b cbx 0 vx lw false i W ⟨HJR.out.j.below hW HJR.out.j.lt, HJR.out.l.below hW⟩)
                have HG1 := hid (HG.out wD BD.out (lw.length : Int) (by omega))
                clear hB HSM BC
                go_wp2_with fail
                refine HG1.out.mono ?_
                rintro e wE ⟨rfl, hB⟩
                have BE := hid (BD.out.trans (hB.mono BD.out.size))
                have HG2 := hid (HG.out wE BE.out (-1) (by omega))
                clear hB HG1 BD
                go_wp2_with fail
                refine HG2.out.mono ?_
                rintro e wF ⟨rfl, hB⟩
                have BF := hid (BE.out.trans (hB.mono BE.out.size))
                have HLO := hid (HJ.out.low.trans (BF.out.mono HJ.out.low.size))
                clear hB HG2 BE HG
                go_wp2_with fail
                go_ret
                exact ⟨rfl, HLO.out⟩
      case neg =>
        by_cases hneg : n < 0
        · as_aux_lemma =>
            have hc1 := j2_cut HJ5.out n HN.out (HLS.out.mono (by omega)) (by omega)
            rw [if_neg hin, if_neg hin] at hc1
            have HC1 := hid hc1
            clear hc1
            have hrg : n < 0 ∨ (l.length : Int) < n := by omega
            have hn0 : ¬ 0 ≤ n := by omega
            go_upto_region 17 with fail
            go_wp2_with fail
            refine HC1.out.mono ?_
            rintro e w6 ⟨rfl, hJ⟩
            have hc2 := j2_cut (hJ.swap ⟨by omega, by omega⟩) n HN.out (HLS.out.mono (by omega)) (by omega)
            rw [if_neg hin, if_neg hin] at hc2
            have HC2 := hid hc2
            clear hJ hc2 HC1
            go_wp2_with fail
            refine HC2.out.mono ?_
            rintro e w7 ⟨rfl, hJ⟩
            have J7 := hid (hJ.swap ⟨by omega, by omega⟩)
            clear hJ HC2 HJ5
            have B8 := hid (show Below w7.heap.size w7 (w7.alloc (Obj.cells #[] 9)) by (repeat (first | exact Below.refl _ _ | assumption | refine below_drewN ?_ _ | refine Below.drew ?_ | refine Below.alloc ?_ (by (try simp); (try omega)) _ | refine Below.setCell ?_ (by (try simp); (try omega)) _)))
            have O8 := hid (show strRK.Own (w7.alloc (Obj.cells #[] 9)) w7.heap.size (.slice (some ⟨w7.heap.size, 0, none⟩) 0 0) [] from RK.Own.fresh (l := []) (Blk.new w7 _ _) (Nat.le_refl _) (by simp))
            have S8 := hid (show SlR (w7.alloc (Obj.cells #[] 9)) (w7.alloc (Obj.cells #[] 9)).heap.size A1 l from (HS1.out.below (J7.out.low.trans (B8.out.mono J7.out.low.size))).more (Nat.le_trans J7.out.low.size B8.out.size))
            have hok0 := hid (show ∀ x ∈ ([] : List ByteArray), x.size ≤ maxLen by simp)
            have hle0 := hid (show ([] : List ByteArray).length + l.length ≤ 100000000 by simp; omega)
            have hb8s := hid B8.out.size
            go_upto_region 20 with (at_builtin; refine row_appL rfl (.tmp 88) (.tmp 89) rfl rfl O8.out hok0.out rfl S8.out hle0.out hb8s.out ?_; intro A9 c9 w9 hO9 hg9 hl9; have O9a := hid hO9; have G9 := hid hg9; clear hO9 hg9 hl9)
            have O9 := O9a.out
            simp only [List.length_nil, Nat.zero_add, List.nil_append] at O9 ⊢
            have O9 := hid O9
            have B9 := hid (show Below w7.heap.size w7 w9 from B8.out.grown (show (w7.alloc (Obj.cells #[] 9)).grownBy w9 (some w7.heap.size) from G9.out) hb8s.out (fun q e => by injection e with e; omega))
            clear O9a G9 O8 S8 B8 hb8s hle0

            obtain ⟨tk, htk⟩ : ∃ tk, tk = l := ⟨_, rfl⟩
            have HTL := hid (show Bd 8 tk from by rw [htk]; exact HLS.out)
            have htc : tk.length ≤ l.length := by rw [htk]; exact Nat.le_refl _
            have J11 := hid (show J2 w w9 b 0 2 jk1 jk2 tk tk (N + 4000 + 4000) [(.slice A9 tk.length c9, tk)] from by have := J7.out.row B9.out O9.out; rwa [← htk] at this)
            have HLT := hid (show l.length = tk.length by rw [htk])
            rw [HLT.out]
            obtain ⟨A11, hA11⟩ : ∃ A, A = A9 := ⟨_, rfl⟩
            obtain ⟨c11, hc11⟩ : ∃ c, c = c9 := ⟨_, rfl⟩
            rw [← hA11, ← hc11] at J11
            rw [← hA11, ← hc11]
            clear htk J7 B9 O9 hA11 hc11


            have HOKT := hid HTL.out.max_
            have HA1 := hid (j2_app J11.out A2 c2 bb ((HS2.out.below J11.out.low).more J11.out.low.size) (fun ad e h0 => .inl (HBA.out ad e h0)) (HTL.out.mono (by omega)) HYS.out (by omega))
            go_wp2_with fail
            refine HA1.out.mono ?_
            rintro e w12 ⟨rfl, hJ⟩
            have J12 := hid (hJ.swap ⟨by omega, by omega⟩)
            have HA2 := hid (j2_app J12.out A2 c2 bb ((HS2.out.below J12.out.low).more J12.out.low.size) (fun ad e h0 => .inl (HBA.out ad e h0)) (HTL.out.mono (by omega)) HYS.out (by omega))
            clear hJ HA1
            go_wp2_with fail
            refine HA2.out.mono ?_
            rintro e w13 ⟨rfl, hJ⟩
            have J13 := hid (hJ.swap ⟨by omega, by omega⟩)
            clear hJ HA2 J12
            obtain ⟨big, cells, hbl, hcl, hmk⟩ := big_make 1048576 (by omega)
            have hmk2 : ∀ W, (Instr.makeSlice 29 (.int .i64 1048576) (.int .i64 1048576)).run Tryd.prog W = .ok (.slice (some ⟨W.heap.size, 0, none⟩) 1048576 1048576) (W.alloc (.cells cells 5)) := hmk
            have hcv := big_back big cells hcl (w13.alloc (.cells cells 5)) w13.heap.size 1048576 (Blk.new w13 _ _)
            rw [hbl] at hcv
            obtain ⟨x, hx⟩ : ∃ x, x = bs big := ⟨_, rfl⟩
            have HXS := hid (show x.size = 1048576 by rw [hx, bs_size, hbl])
            rw [← hx] at hcv
            have B14 := hid (show Below w13.heap.size w13 (w13.alloc (.cells cells 5)) by (repeat (first | exact Below.refl _ _ | assumption | refine below_drewN ?_ _ | refine Below.drew ?_ | refine Below.alloc ?_ (by (try simp); (try omega)) _ | refine Below.setCell ?_ (by (try simp); (try omega)) _)))
            clear hbl hcl hmk hx
            have BX := hid (show Below (w13.alloc (.cells cells 5)).heap.size (w13.alloc (.cells cells 5)) ((w13.alloc (.cells cells 5)).alloc (Obj.cells #[Value.string x] 9)) by (repeat (first | exact Below.refl _ _ | assumption | refine below_drewN ?_ _ | refine Below.drew ?_ | refine Below.alloc ?_ (by (try simp); (try omega)) _ | refine Below.setCell ?_ (by (try simp); (try omega)) _)))
            have SX := hid (show SlR ((w13.alloc (.cells cells 5)).alloc (Obj.cells #[Value.string x] 9)) ((w13.alloc (.cells cells 5)).alloc (Obj.cells #[Value.string x] 9)).heap.size (some ⟨(w13.alloc (.cells cells 5)).heap.size, 0, none⟩) ([x] : List ByteArray) from slr_new _ [x] (by intro y hy; rw [List.mem_singleton] at hy; rw [hy]; have := HXS.out; unfold maxLen; omega))
            have JX := hid ((J13.out.below B14.out).row BX.out (rv := .slice (some ⟨(w13.alloc (.cells cells 5)).heap.size, 0, none⟩) 1 1) (rl := [x]) (RK.Own.fresh (l := [x]) (Blk.new (w13.alloc (.cells cells 5)) _ _) (Nat.le_refl _) (by show 1 ≤ maxLen; unfold maxLen; omega)))
            have hz3 : (w13.alloc (.cells cells 5)).heap.size = w13.heap.size + 1 := by simp
            have ha3 := (j2_full JX.out (some ⟨(w13.alloc (.cells cells 5)).heap.size, 0, none⟩) 1 x SX.out (fun ad e => by injection e with e; subst e; exact .inr ⟨_, List.mem_cons_self .., rfl⟩) ((HTL.out.app HYS.out).mono (by omega)) HXS.out (by omega))
            rw [hz3] at ha3
            have HA3 := hid ha3
            clear ha3 hz3
            go_wp2_with fail
            refine HA3.out.mono ?_
            rintro e w14 ⟨rfl, hJ⟩
            have J14 := hid (hJ.sub (rows' := [(.slice A11 tk.length c11, tk)]) (by intro r hr; rw [List.mem_singleton] at hr; rw [hr]; exact List.mem_cons_of_mem _ (List.mem_cons_self ..)))
            clear hJ HA3 JX SX BX B14 hmk2 hcv J13 J11
            have hro := J14.out.rows_ _ (List.mem_singleton.2 rfl)
            simp only at hro
            have HRO := hid hro
            have SB14 := hid (show SlR w14 w14.heap.size A2 bb from (HS2.out.below J14.out.low).more J14.out.low.size)
            have hle1 := hid (show tk.length + bb.length ≤ 100000000 by omega)
            have hb14 := hid J14.out.low.size
            clear hro
            go_upto_region 25 with (at_builtin; refine row_appL rfl (.tmp 119) (.tmp 120) rfl rfl HRO.out HOKT.out rfl SB14.out hle1.out hb14.out ?_; intro A15 c15 w15 hO15 hg15 hl15; have O15 := hid hO15; have G15 := hid hg15; have L15 := hid hl15; clear hO15 hg15 hl15)
            obtain ⟨lw, hlw⟩ : ∃ lw, lw = tk ++ bb := ⟨_, rfl⟩
            have hlen : tk.length + bb.length = lw.length := by rw [hlw, List.length_append]
            have hJ15 := J14.out.grow G15.out O15.out L15.out
            rw [hlen, ← hlw] at hJ15
            rw [hlen]
            have J15 := hid hJ15
            have HLW := hid (show Bd 16 lw from by rw [hlw]; exact (HTL.out.app HYS.out).mono (by omega))
            have hlw16 := HLW.out.1
            clear hJ15 hlen hlw J14 HRO SB14 hle1 hb14 O15 G15 L15
            obtain ⟨N5, hN5⟩ : ∃ n, n = N + 4000 + 4000 + 4000 + 4000 + 7000000 := ⟨_, rfl⟩
            rw [← hN5] at J15
            clear hN5
            go_wp2_with fail
            go_loopw [16] (fun iv wr => ∃ k : Nat, k ≤ lw.length ∧ iv = .int .i64 (k : Nat) ∧ J2 w wr b 0 2 jk1 jk2 lw lw N5 [(.slice A15 lw.length c15, lw)]) (fun iv _ => lw.length - (intOf iv).toNat)
            case atStart => exact ⟨0, by omega, rfl, J15.out⟩
            case round =>
              clear J15
              obtain ⟨k, hk, rfl, hJ⟩ := hrel
              have HJ := hid hJ
              have HOKL := hid HLW.out.max_
              have hro := hJ.rows_ _ (List.mem_singleton.2 rfl)
              simp only at hro
              have HRO := hid hro
              obtain ⟨cbx, vx, hjr⟩ := hJ.jr1
              have HJR := hid hjr
              obtain ⟨cby, vy, hjr2⟩ := hJ.jr2
              have HJR2 := hid hjr2
              clear hJ hro hjr hjr2
              by_cases hlt : k < lw.length
              case pos =>
                as_aux_lemma =>
                  have hltI : (k : Int) < (lw.length : Int) := by omega
                  obtain ⟨g, off, hA, hg, hcl⟩ := (own_slr HRO.out HOKL.out).str hlt
                  have hge : getB lw (k : Int) = lw[k] := by
                    unfold getB
                    rw [if_neg (by omega), Int.toNat_natCast, List.getD_eq_getElem?_getD, List.getElem?_eq_getElem hlt]
                    rfl
                  generalize lw[k] = x at *
                  subst hA
                  have HGE := hid hge
                  clear hge
                  go_upto_region 28 with fail
                  have HSF := hid (fun (wq : World) (hq : Below wr.heap.size wr wq) => show wq.cell? ⟨g, off + k, none⟩ = some (.string x) from (bcell hq g _ hg).trans hcl)
                  have BD := hid ((Below.refl wr.heap.size wr).drew)
                  refine wpIn_wide.1 (wpIn_region_S (n := 0) (fun wq => Below wr.heap.size wr wq) [] (by kernel_rfl) BD.out (fun hHeld => ?_))
                  have HG := hid (fun (W : World) (hW : Below wr.heap.size wr W) => show Calls Tryd.prog 22 #[.pointer (some ⟨jk1, 0, none⟩), .int .i64 (k : Int)] W fun e w' => e = .returned (.string x) ∧ Below W.heap.size W w' from by
                    rw [← HGE.out]
                    exact get_any w.heap.size jk1 b cbx 0 vx lw false (k : Int) W ⟨HJR.out.j.below hW HJR.out.j.lt, HJR.out.l.below hW⟩)
                  generalize wr.drew = wd at *
                  refine wpAnyS_pure 0 (v := ?_) (fun _ => trivial) (by simp only [List.getElem?_toArray, List.getElem?_cons_succ, List.getElem?_cons_zero]; rfl) (by kernel_rfl) (fun _ _ _ _ _ h => h) ⟨rfl, (by intro c h; cases h), ?_⟩ hHeld ?_
                  rotate_left
                  focus (intro wS hSw; (try replace hSw := HSF.out wS hSw); (try dsimp only at hSw); go_simp; (try with_reducible rfl))
                  (try simp only [Act.put, List.setIfInBounds_toArray, List.set_cons_zero, List.set_cons_succ])
                  refine wpAnyS_pure 1 (v := ?_) (fun _ => trivial) (by simp only [List.getElem?_toArray, List.getElem?_cons_succ, List.getElem?_cons_zero]; rfl) (by kernel_rfl) (fun _ _ _ _ _ h => h) ⟨rfl, (by intro c h; cases h), ?_⟩ hHeld ?_
                  rotate_left
                  focus (intro wS hSw; (try replace hSw := HSF.out wS hSw); (try dsimp only at hSw); go_simp; (try with_reducible rfl))
                  (try simp only [Act.put, List.setIfInBounds_toArray, List.set_cons_zero, List.set_cons_succ])
                  refine wpAnyS_pure 3 (v := ?_) (fun _ => trivial) (by simp only [List.getElem?_toArray, List.getElem?_cons_succ, List.getElem?_cons_zero]; rfl) (by kernel_rfl) (fun _ _ _ _ _ h => h) ⟨rfl, (by intro c h; cases h), ?_⟩ hHeld ?_
                  rotate_left
                  focus (intro wS hSw; (try replace hSw := HSF.out wS hSw); (try dsimp only at hSw); go_simp; (try with_reducible rfl))
                  (try simp only [Act.put, List.setIfInBounds_toArray, List.set_cons_zero, List.set_cons_succ])
                  refine wpAnyS_pure 4 (v := ?_) (fun _ => trivial) (by simp only [List.getElem?_toArray, List.getElem?_cons_succ, List.getElem?_cons_zero]; rfl) (by kernel_rfl) (fun _ _ _ _ _ h => h) ⟨rfl, (by intro c h; cases h), ?_⟩ hHeld ?_
                  rotate_left
                  focus (intro wS hSw; (try replace hSw := HSF.out wS hSw); (try dsimp only at hSw); go_simp; (try with_reducible rfl))
                  (try simp only [Act.put, List.setIfInBounds_toArray, List.set_cons_zero, List.set_cons_succ])
                  refine wpAnyS_take 5 (v := ?_) (fun _ => trivial) (by simp only [List.getElem?_toArray, List.getElem?_cons_succ, List.getElem?_cons_zero]; rfl) (by kernel_rfl) (fun _ _ _ _ _ h => h) ⟨rfl, (by intro c h; cases h), ?_⟩ hHeld ?_
                  rotate_left
                  focus (intro wS hSw; (try replace hSw := HSF.out wS hSw); (try dsimp only at hSw); go_simp; (try with_reducible rfl))
                  (try simp only [Act.put, List.setIfInBounds_toArray, List.set_cons_zero, List.set_cons_succ])
                  refine wpAnyS_take 6 (v := ?_) (fun _ => trivial) (by simp only [List.getElem?_toArray, List.getElem?_cons_succ, List.getElem?_cons_zero]; rfl) (by kernel_rfl) (fun _ _ _ _ _ h => h) ⟨rfl, (by intro c h; cases h), ?_⟩ hHeld ?_
                  rotate_left
                  focus (intro wS hSw; (try replace hSw := HSF.out wS hSw); (try dsimp only at hSw); go_simp; (try with_reducible rfl))
                  (try simp only [Act.put, List.setIfInBounds_toArray, List.set_cons_zero, List.set_cons_succ])
                  refine wpAnyS_ready [2] (by kernel_rfl) (by simp) (AllReadyS.consG (by simp only [List.getElem?_toArray, List.getElem?_cons_succ, List.getElem?_cons_zero]; rfl) (by rfl) (fun K hK => ?_) AllReadyS.nil)
                  refine callS (by intro c h; cases h) (by go_simp; try with_reducible rfl) (HG.out wd BD.out) ?_
                  intro w16 hBq
                  have B16 := hid (BD.out.trans (hBq.mono BD.out.size))
                  refine hK.out _ _ B16.out ?_
                  (try simp only [Act.put, List.setIfInBounds_toArray, List.set_cons_zero, List.set_cons_succ])
                  clear hK K hBq
                  clear hHeld
                  have hHeld := B16.out
                  refine wpAnyS_pure 7 (v := ?_) (fun _ => trivial) (by simp only [List.getElem?_toArray, List.getElem?_cons_succ, List.getElem?_cons_zero]; rfl) (by kernel_rfl) (fun _ _ _ _ _ h => h) ⟨rfl, (by intro c h; cases h), ?_⟩ hHeld ?_
                  rotate_left
                  focus (intro wS hSw; (try replace hSw := HSF.out wS hSw); (try dsimp only at hSw); go_simp; (try with_reducible rfl))
                  (try simp only [Act.put, List.setIfInBounds_toArray, List.set_cons_zero, List.set_cons_succ])
                  refine wpAnyS_done (by kernel_rfl) ?_
                  have HJ16 := hid (HJ.out.below B16.out)
                  clear HSF hHeld HG BD B16 hcl HGE
                  go_wp2_with fail
                  go_roundw
                  case rel => exact ⟨k + 1, by omega, by go_num, HJ16.out⟩
                  case measure => simp [intOf]; omega
              case neg =>
                obtain rfl : k = lw.length := by omega
                as_aux_lemma =>
                  have HA1 := hid (all_any w.heap.size jk1 b cbx 0 vx lw false wr HJR.out (by omega))
                  go_wp2_with fail
                  refine HA1.out.mono ?_
                  rintro e wA ⟨gc, rfl, -, hO, hB⟩
                  have hsm := same_rows hO (HRO.out.below hB) HOKL.out HOKL.out (by unfold maxLen; omega) (by unfold maxLen; omega)
                  rw [decide_eq_true rfl] at hsm
                  have HSM := hid hsm
                  have BA := hid hB
                  clear hO hB HA1 hsm
                  go_wp2_with fail
                  refine HSM.out.mono ?_
                  rintro e wB ⟨rfl, hB⟩
                  have BB := hid (BA.out.trans (hB.mono BA.out.size))
                  have HA2 := hid (all_any w.heap.size jk2 b cby 2 vy lw false wB ⟨HJR2.out.j.below BB.out HJR2.out.j.lt, HJR2.out.l.below BB.out⟩ (by omega))
                  clear hB HSM BA
                  go_wp2_with fail
                  refine HA2.out.mono ?_
                  rintro e wC ⟨gd, rfl, -, hO, hB⟩
                  have BC := hid (BB.out.trans (hB.mono BB.out.size))
                  have hsm := same_rows hO (HRO.out.below BC.out) HOKL.out HOKL.out (by unfold maxLen; omega) (by unfold maxLen; omega)
                  rw [decide_eq_true rfl] at hsm
                  have HSM := hid hsm
                  clear hO hB HA2 hsm BB
                  go_wp2_with fail
                  refine HSM.out.mono ?_
                  rintro e wD ⟨rfl, hB⟩
                  have BD := hid (BC.out.trans (hB.mono BC.out.size))
                  have HG := hid (fun (W : World) (hW : Below wr.heap.size wr W) (i : Int) (hi : i < 0 ∨ (lw.length : Int) ≤ i) => show Calls Tryd.prog 22 #[.pointer (some ⟨jk1, 0, none⟩), .int .i64 i] W fun e w' => e = .returned (.string { data := #[] }) ∧ Below W.heap.size W w' from by
                    have e1 : getB lw i = { data := #[] } := by
                      unfold getB
                      split
                      · rfl
                      · rw [List.getD_eq_getElem?_getD, List.getElem?_eq_none_iff.2 (by omega)]; rfl
                    rw [← e1]
                    exact get_any w.heap.size jk1 b cbx 0 vx lw false i W ⟨HJR.out.j.below hW HJR.out.j.lt, HJR.out.l.below hW⟩)
                  have HG1 := hid (HG.out wD BD.out (lw.length : Int) (by omega))
                  clear hB HSM BC
                  go_wp2_with fail
                  refine HG1.out.mono ?_
                  rintro e wE ⟨rfl, hB⟩
                  have BE := hid (BD.out.trans (hB.mono BD.out.size))
                  have HG2 := hid (HG.out wE BE.out (-1) (by omega))
                  clear hB HG1 BD
                  go_wp2_with fail
                  refine HG2.out.mono ?_
                  rintro e wF ⟨rfl, hB⟩
                  have BF := hid (BE.out.trans (hB.mono BE.out.size))
                  have HLO := hid (HJ.out.low.trans (BF.out.mono HJ.out.low.size))
                  clear hB HG2 BE HG
                  go_wp2_with fail
                  go_ret
                  exact ⟨rfl, HLO.out⟩
        · as_aux_lemma =>
            have hc1 := j2_cut HJ5.out n HN.out (HLS.out.mono (by omega)) (by omega)
            rw [if_neg hin, if_neg hin] at hc1
            have HC1 := hid hc1
            clear hc1
            have hrg : n < 0 ∨ (l.length : Int) < n := by omega
            have hn0 : ¬ n < 0 := by omega
            have hn1 : ¬ n ≤ (l.length : Int) := by omega
            have hn2 : 0 ≤ n := by omega
            go_upto_region 17 with fail
            go_wp2_with fail
            refine HC1.out.mono ?_
            rintro e w6 ⟨rfl, hJ⟩
            have hc2 := j2_cut (hJ.swap ⟨by omega, by omega⟩) n HN.out (HLS.out.mono (by omega)) (by omega)
            rw [if_neg hin, if_neg hin] at hc2
            have HC2 := hid hc2
            clear hJ hc2 HC1
            go_wp2_with fail
            refine HC2.out.mono ?_
            rintro e w7 ⟨rfl, hJ⟩
            have J7 := hid (hJ.swap ⟨by omega, by omega⟩)
            clear hJ HC2 HJ5
            have B8 := hid (show Below w7.heap.size w7 (w7.alloc (Obj.cells #[] 9)) by (repeat (first | exact Below.refl _ _ | assumption | refine below_drewN ?_ _ | refine Below.drew ?_ | refine Below.alloc ?_ (by (try simp); (try omega)) _ | refine Below.setCell ?_ (by (try simp); (try omega)) _)))
            have O8 := hid (show strRK.Own (w7.alloc (Obj.cells #[] 9)) w7.heap.size (.slice (some ⟨w7.heap.size, 0, none⟩) 0 0) [] from RK.Own.fresh (l := []) (Blk.new w7 _ _) (Nat.le_refl _) (by simp))
            have S8 := hid (show SlR (w7.alloc (Obj.cells #[] 9)) (w7.alloc (Obj.cells #[] 9)).heap.size A1 l from (HS1.out.below (J7.out.low.trans (B8.out.mono J7.out.low.size))).more (Nat.le_trans J7.out.low.size B8.out.size))
            have hok0 := hid (show ∀ x ∈ ([] : List ByteArray), x.size ≤ maxLen by simp)
            have hle0 := hid (show ([] : List ByteArray).length + l.length ≤ 100000000 by simp; omega)
            have hb8s := hid B8.out.size
            go_upto_region 20 with (at_builtin; refine row_appL rfl (.tmp 88) (.tmp 89) rfl rfl O8.out hok0.out rfl S8.out hle0.out hb8s.out ?_; intro A9 c9 w9 hO9 hg9 hl9; have O9a := hid hO9; have G9 := hid hg9; clear hO9 hg9 hl9)
            have O9 := O9a.out
            simp only [List.length_nil, Nat.zero_add, List.nil_append] at O9 ⊢
            have O9 := hid O9
            have B9 := hid (show Below w7.heap.size w7 w9 from B8.out.grown (show (w7.alloc (Obj.cells #[] 9)).grownBy w9 (some w7.heap.size) from G9.out) hb8s.out (fun q e => by injection e with e; omega))
            clear O9a G9 O8 S8 B8 hb8s hle0

            obtain ⟨tk, htk⟩ : ∃ tk, tk = l := ⟨_, rfl⟩
            have HTL := hid (show Bd 8 tk from by rw [htk]; exact HLS.out)
            have htc : tk.length ≤ l.length := by rw [htk]; exact Nat.le_refl _
            have J11 := hid (show J2 w w9 b 0 2 jk1 jk2 tk tk (N + 4000 + 4000) [(.slice A9 tk.length c9, tk)] from by have := J7.out.row B9.out O9.out; rwa [← htk] at this)
            have HLT := hid (show l.length = tk.length by rw [htk])
            rw [HLT.out]
            obtain ⟨A11, hA11⟩ : ∃ A, A = A9 := ⟨_, rfl⟩
            obtain ⟨c11, hc11⟩ : ∃ c, c = c9 := ⟨_, rfl⟩
            rw [← hA11, ← hc11] at J11
            rw [← hA11, ← hc11]
            clear htk J7 B9 O9 hA11 hc11


            have HOKT := hid HTL.out.max_
            have HA1 := hid (j2_app J11.out A2 c2 bb ((HS2.out.below J11.out.low).more J11.out.low.size) (fun ad e h0 => .inl (HBA.out ad e h0)) (HTL.out.mono (by omega)) HYS.out (by omega))
            go_wp2_with fail
            refine HA1.out.mono ?_
            rintro e w12 ⟨rfl, hJ⟩
            have J12 := hid (hJ.swap ⟨by omega, by omega⟩)
            have HA2 := hid (j2_app J12.out A2 c2 bb ((HS2.out.below J12.out.low).more J12.out.low.size) (fun ad e h0 => .inl (HBA.out ad e h0)) (HTL.out.mono (by omega)) HYS.out (by omega))
            clear hJ HA1
            go_wp2_with fail
            refine HA2.out.mono ?_
            rintro e w13 ⟨rfl, hJ⟩
            have J13 := hid (hJ.swap ⟨by omega, by omega⟩)
            clear hJ HA2 J12
            obtain ⟨big, cells, hbl, hcl, hmk⟩ := big_make 1048576 (by omega)
            have hmk2 : ∀ W, (Instr.makeSlice 29 (.int .i64 1048576) (.int .i64 1048576)).run Tryd.prog W = .ok (.slice (some ⟨W.heap.size, 0, none⟩) 1048576 1048576) (W.alloc (.cells cells 5)) := hmk
            have hcv := big_back big cells hcl (w13.alloc (.cells cells 5)) w13.heap.size 1048576 (Blk.new w13 _ _)
            rw [hbl] at hcv
            obtain ⟨x, hx⟩ : ∃ x, x = bs big := ⟨_, rfl⟩
            have HXS := hid (show x.size = 1048576 by rw [hx, bs_size, hbl])
            rw [← hx] at hcv
            have B14 := hid (show Below w13.heap.size w13 (w13.alloc (.cells cells 5)) by (repeat (first | exact Below.refl _ _ | assumption | refine below_drewN ?_ _ | refine Below.drew ?_ | refine Below.alloc ?_ (by (try simp); (try omega)) _ | refine Below.setCell ?_ (by (try simp); (try omega)) _)))
            clear hbl hcl hmk hx
            have BX := hid (show Below (w13.alloc (.cells cells 5)).heap.size (w13.alloc (.cells cells 5)) ((w13.alloc (.cells cells 5)).alloc (Obj.cells #[Value.string x] 9)) by (repeat (first | exact Below.refl _ _ | assumption | refine below_drewN ?_ _ | refine Below.drew ?_ | refine Below.alloc ?_ (by (try simp); (try omega)) _ | refine Below.setCell ?_ (by (try simp); (try omega)) _)))
            have SX := hid (show SlR ((w13.alloc (.cells cells 5)).alloc (Obj.cells #[Value.string x] 9)) ((w13.alloc (.cells cells 5)).alloc (Obj.cells #[Value.string x] 9)).heap.size (some ⟨(w13.alloc (.cells cells 5)).heap.size, 0, none⟩) ([x] : List ByteArray) from slr_new _ [x] (by intro y hy; rw [List.mem_singleton] at hy; rw [hy]; have := HXS.out; unfold maxLen; omega))
            have JX := hid ((J13.out.below B14.out).row BX.out (rv := .slice (some ⟨(w13.alloc (.cells cells 5)).heap.size, 0, none⟩) 1 1) (rl := [x]) (RK.Own.fresh (l := [x]) (Blk.new (w13.alloc (.cells cells 5)) _ _) (Nat.le_refl _) (by show 1 ≤ maxLen; unfold maxLen; omega)))
            have hz3 : (w13.alloc (.cells cells 5)).heap.size = w13.heap.size + 1 := by simp
            have ha3 := (j2_full JX.out (some ⟨(w13.alloc (.cells cells 5)).heap.size, 0, none⟩) 1 x SX.out (fun ad e => by injection e with e; subst e; exact .inr ⟨_, List.mem_cons_self .., rfl⟩) ((HTL.out.app HYS.out).mono (by omega)) HXS.out (by omega))
            rw [hz3] at ha3
            have HA3 := hid ha3
            clear ha3 hz3
            go_wp2_with fail
            refine HA3.out.mono ?_
            rintro e w14 ⟨rfl, hJ⟩
            have J14 := hid (hJ.sub (rows' := [(.slice A11 tk.length c11, tk)]) (by intro r hr; rw [List.mem_singleton] at hr; rw [hr]; exact List.mem_cons_of_mem _ (List.mem_cons_self ..)))
            clear hJ HA3 JX SX BX B14 hmk2 hcv J13 J11
            have hro := J14.out.rows_ _ (List.mem_singleton.2 rfl)
            simp only at hro
            have HRO := hid hro
            have SB14 := hid (show SlR w14 w14.heap.size A2 bb from (HS2.out.below J14.out.low).more J14.out.low.size)
            have hle1 := hid (show tk.length + bb.length ≤ 100000000 by omega)
            have hb14 := hid J14.out.low.size
            clear hro
            go_upto_region 25 with (at_builtin; refine row_appL rfl (.tmp 119) (.tmp 120) rfl rfl HRO.out HOKT.out rfl SB14.out hle1.out hb14.out ?_; intro A15 c15 w15 hO15 hg15 hl15; have O15 := hid hO15; have G15 := hid hg15; have L15 := hid hl15; clear hO15 hg15 hl15)
            obtain ⟨lw, hlw⟩ : ∃ lw, lw = tk ++ bb := ⟨_, rfl⟩
            have hlen : tk.length + bb.length = lw.length := by rw [hlw, List.length_append]
            have hJ15 := J14.out.grow G15.out O15.out L15.out
            rw [hlen, ← hlw] at hJ15
            rw [hlen]
            have J15 := hid hJ15
            have HLW := hid (show Bd 16 lw from by rw [hlw]; exact (HTL.out.app HYS.out).mono (by omega))
            have hlw16 := HLW.out.1
            clear hJ15 hlen hlw J14 HRO SB14 hle1 hb14 O15 G15 L15
            obtain ⟨N5, hN5⟩ : ∃ n, n = N + 4000 + 4000 + 4000 + 4000 + 7000000 := ⟨_, rfl⟩
            rw [← hN5] at J15
            clear hN5
            go_wp2_with fail
            go_loopw [16] (fun iv wr => ∃ k : Nat, k ≤ lw.length ∧ iv = .int .i64 (k : Nat) ∧ J2 w wr b 0 2 jk1 jk2 lw lw N5 [(.slice A15 lw.length c15, lw)]) (fun iv _ => lw.length - (intOf iv).toNat)
            case atStart => exact ⟨0, by omega, rfl, J15.out⟩
            case round =>
              clear J15
              obtain ⟨k, hk, rfl, hJ⟩ := hrel
              have HJ := hid hJ
              have HOKL := hid HLW.out.max_
              have hro := hJ.rows_ _ (List.mem_singleton.2 rfl)
              simp only at hro
              have HRO := hid hro
              obtain ⟨cbx, vx, hjr⟩ := hJ.jr1
              have HJR := hid hjr
              obtain ⟨cby, vy, hjr2⟩ := hJ.jr2
              have HJR2 := hid hjr2
              clear hJ hro hjr hjr2
              by_cases hlt : k < lw.length
              case pos =>
                as_aux_lemma =>
                  have hltI : (k : Int) < (lw.length : Int) := by omega
                  obtain ⟨g, off, hA, hg, hcl⟩ := (own_slr HRO.out HOKL.out).str hlt
                  have hge : getB lw (k : Int) = lw[k] := by
                    unfold getB
                    rw [if_neg (by omega), Int.toNat_natCast, List.getD_eq_getElem?_getD, List.getElem?_eq_getElem hlt]
                    rfl
                  generalize lw[k] = x at *
                  subst hA
                  have HGE := hid hge
                  clear hge
                  go_upto_region 28 with fail
                  have HSF := hid (fun (wq : World) (hq : Below wr.heap.size wr wq) => show wq.cell? ⟨g, off + k, none⟩ = some (.string x) from (bcell hq g _ hg).trans hcl)
                  have BD := hid ((Below.refl wr.heap.size wr).drew)
                  refine wpIn_wide.1 (wpIn_region_S (n := 0) (fun wq => Below wr.heap.size wr wq) [] (by kernel_rfl) BD.out (fun hHeld => ?_))
                  have HG := hid (fun (W : World) (hW : Below wr.heap.size wr W) => show Calls Tryd.prog 22 #[.pointer (some ⟨jk1, 0, none⟩), .int .i64 (k : Int)] W fun e w' => e = .returned (.string x) ∧ Below W.heap.size W w' from by
                    rw [← HGE.out]
                    exact get_any w.heap.size jk1 b cbx 0 vx lw false (k : Int) W ⟨HJR.out.j.below hW HJR.out.j.lt, HJR.out.l.below hW⟩)
                  generalize wr.drew = wd at *
                  refine wpAnyS_pure 0 (v := ?_) (fun _ => trivial) (by simp only [List.getElem?_toArray, List.getElem?_cons_succ, List.getElem?_cons_zero]; rfl) (by kernel_rfl) (fun _ _ _ _ _ h => h) ⟨rfl, (by intro c h; cases h), ?_⟩ hHeld ?_
                  rotate_left
                  focus (intro wS hSw; (try replace hSw := HSF.out wS hSw); (try dsimp only at hSw); go_simp; (try with_reducible rfl))
                  (try simp only [Act.put, List.setIfInBounds_toArray, List.set_cons_zero, List.set_cons_succ])
                  refine wpAnyS_pure 1 (v := ?_) (fun _ => trivial) (by simp only [List.getElem?_toArray, List.getElem?_cons_succ, List.getElem?_cons_zero]; rfl) (by kernel_rfl) (fun _ _ _ _ _ h => h) ⟨rfl, (by intro c h; cases h), ?_⟩ hHeld ?_
                  rotate_left
                  focus (intro wS hSw; (try replace hSw := HSF.out wS hSw); (try dsimp only at hSw); go_simp; (try with_reducible rfl))
                  (try simp only [Act.put, List.setIfInBounds_toArray, List.set_cons_zero, List.set_cons_succ])
                  refine wpAnyS_pure 3 (v := ?_) (fun _ => trivial) (by simp only [List.getElem?_toArray, List.getElem?_cons_succ, List.getElem?_cons_zero]; rfl) (by kernel_rfl) (fun _ _ _ _ _ h => h) ⟨rfl, (by intro c h; cases h), ?_⟩ hHeld ?_
                  rotate_left
                  focus (intro wS hSw; (try replace hSw := HSF.out wS hSw); (try dsimp only at hSw); go_simp; (try with_reducible rfl))
                  (try simp only [Act.put, List.setIfInBounds_toArray, List.set_cons_zero, List.set_cons_succ])
                  refine wpAnyS_pure 4 (v := ?_) (fun _ => trivial) (by simp only [List.getElem?_toArray, List.getElem?_cons_succ, List.getElem?_cons_zero]; rfl) (by kernel_rfl) (fun _ _ _ _ _ h => h) ⟨rfl, (by intro c h; cases h), ?_⟩ hHeld ?_
                  rotate_left
                  focus (intro wS hSw; (try replace hSw := HSF.out wS hSw); (try dsimp only at hSw); go_simp; (try with_reducible rfl))
                  (try simp only [Act.put, List.setIfInBounds_toArray, List.set_cons_zero, List.set_cons_succ])
                  refine wpAnyS_take 5 (v := ?_) (fun _ => trivial) (by simp only [List.getElem?_toArray, List.getElem?_cons_succ, List.getElem?_cons_zero]; rfl) (by kernel_rfl) (fun _ _ _ _ _ h => h) ⟨rfl, (by intro c h; cases h), ?_⟩ hHeld ?_
                  rotate_left
                  focus (intro wS hSw; (try replace hSw := HSF.out wS hSw); (try dsimp only at hSw); go_simp; (try with_reducible rfl))
                  (try simp only [Act.put, List.setIfInBounds_toArray, List.set_cons_zero, List.set_cons_succ])
                  refine wpAnyS_take 6 (v := ?_) (fun _ => trivial) (by simp only [List.getElem?_toArray, List.getElem?_cons_succ, List.getElem?_cons_zero]; rfl) (by kernel_rfl) (fun _ _ _ _ _ h => h) ⟨rfl, (by intro c h; cases h), ?_⟩ hHeld ?_
                  rotate_left
                  focus (intro wS hSw; (try replace hSw := HSF.out wS hSw); (try dsimp only at hSw); go_simp; (try with_reducible rfl))
                  (try simp only [Act.put, List.setIfInBounds_toArray, List.set_cons_zero, List.set_cons_succ])
                  refine wpAnyS_ready [2] (by kernel_rfl) (by simp) (AllReadyS.consG (by simp only [List.getElem?_toArray, List.getElem?_cons_succ, List.getElem?_cons_zero]; rfl) (by rfl) (fun K hK => ?_) AllReadyS.nil)
                  refine callS (by intro c h; cases h) (by go_simp; try with_reducible rfl) (HG.out wd BD.out) ?_
                  intro w16 hBq
                  have B16 := hid (BD.out.trans (hBq.mono BD.out.size))
                  refine hK.out _ _ B16.out ?_
                  (try simp only [Act.put, List.setIfInBounds_toArray, List.set_cons_zero, List.set_cons_succ])
                  clear hK K hBq
                  clear hHeld
                  have hHeld := B16.out
                  refine wpAnyS_pure 7 (v := ?_) (fun _ => trivial) (by simp only [List.getElem?_toArray, List.getElem?_cons_succ, List.getElem?_cons_zero]; rfl) (by kernel_rfl) (fun _ _ _ _ _ h => h) ⟨rfl, (by intro c h; cases h), ?_⟩ hHeld ?_
                  rotate_left
                  focus (intro wS hSw; (try replace hSw := HSF.out wS hSw); (try dsimp only at hSw); go_simp; (try with_reducible rfl))
                  (try simp only [Act.put, List.setIfInBounds_toArray, List.set_cons_zero, List.set_cons_succ])
                  refine wpAnyS_done (by kernel_rfl) ?_
                  have HJ16 := hid (HJ.out.below B16.out)
                  clear HSF hHeld HG BD B16 hcl HGE
                  go_wp2_with fail
                  go_roundw
                  case rel => exact ⟨k + 1, by omega, by go_num, HJ16.out⟩
                  case measure => simp [intOf]; omega
              case neg =>
                obtain rfl : k = lw.length := by omega
                as_aux_lemma =>
                  have HA1 := hid (all_any w.heap.size jk1 b cbx 0 vx lw false wr HJR.out (by omega))
                  go_wp2_with fail
                  refine HA1.out.mono ?_
                  rintro e wA ⟨gc, rfl, -, hO, hB⟩
                  have hsm := same_rows hO (HRO.out.below hB) HOKL.out HOKL.out (by unfold maxLen; omega) (by unfold maxLen; omega)
                  rw [decide_eq_true rfl] at hsm
                  have HSM := hid hsm
                  have BA := hid hB
                  clear hO hB HA1 hsm
                  go_wp2_with fail
                  refine HSM.out.mono ?_
                  rintro e wB ⟨rfl, hB⟩
                  have BB := hid (BA.out.trans (hB.mono BA.out.size))
                  have HA2 := hid (all_any w.heap.size jk2 b cby 2 vy lw false wB ⟨HJR2.out.j.below BB.out HJR2.out.j.lt, HJR2.out.l.below BB.out⟩ (by omega))
                  clear hB HSM BA
                  go_wp2_with fail
                  refine HA2.out.mono ?_
                  rintro e wC ⟨gd, rfl, -, hO, hB⟩
                  have BC := hid (BB.out.trans (hB.mono BB.out.size))
                  have hsm := same_rows hO (HRO.out.below BC.out) HOKL.out HOKL.out (by unfold maxLen; omega) (by unfold maxLen; omega)
                  rw [decide_eq_true rfl] at hsm
                  have HSM := hid hsm
                  clear hO hB HA2 hsm BB
                  go_wp2_with fail
                  refine HSM.out.mono ?_
                  rintro e wD ⟨rfl, hB⟩
                  have BD := hid (BC.out.trans (hB.mono BC.out.size))
                  have HG := hid (fun (W : World) (hW : Below wr.heap.size wr W) (i : Int) (hi : i < 0 ∨ (lw.length : Int) ≤ i) => show Calls Tryd.prog 22 #[.pointer (some ⟨jk1, 0, none⟩), .int .i64 i] W fun e w' => e = .returned (.string { data := #[] }) ∧ Below W.heap.size W w' from by
                    have e1 : getB lw i = { data := #[] } := by
                      unfold getB
                      split
                      · rfl
                      · rw [List.getD_eq_getElem?_getD, List.getElem?_eq_none_iff.2 (by omega)]; rfl
                    rw [← e1]
                    exact get_any w.heap.size jk1 b cbx 0 vx lw false i W ⟨HJR.out.j.below hW HJR.out.j.lt, HJR.out.l.below hW⟩)
                  have HG1 := hid (HG.out wD BD.out (lw.length : Int) (by omega))
                  clear hB HSM BC
                  go_wp2_with fail
                  refine HG1.out.mono ?_
                  rintro e wE ⟨rfl, hB⟩
                  have BE := hid (BD.out.trans (hB.mono BD.out.size))
                  have HG2 := hid (HG.out wE BE.out (-1) (by omega))
                  clear hB HG1 BD
                  go_wp2_with fail
                  refine HG2.out.mono ?_
                  rintro e wF ⟨rfl, hB⟩
                  have BF := hid (BE.out.trans (hB.mono BE.out.size))
                  have HLO := hid (HJ.out.low.trans (BF.out.mono HJ.out.low.size))
                  clear hB HG2 BE HG
                  go_wp2_with fail
                  go_ret
                  exact ⟨rfl, HLO.out⟩
end Go.Proofs.YtbefmjodpndndaaDoor
