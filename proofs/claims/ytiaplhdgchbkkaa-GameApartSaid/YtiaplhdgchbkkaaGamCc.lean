
/- Game: clone. -/
import Derived.Test.YtiaplhdgchbkkaaGamCb
set_option linter.unusedSimpArgs false
set_option linter.unusedVariables false
namespace Go.Proofs.Ytiaplhdgchbkkaa
open Go.RowKit Go.IntWalk Go.Shelf

theorem SlR.int_cellsD {w : World} {B b off : Nat} {l : List Int} (h : SlR w B (some ⟨b, off, none⟩) l) : ∀ (j : Nat) (u : Value), (l.map (Value.int .i64))[j]? = some u → w.cell? ((⟨b, off, none⟩ : Addr).add j) = some u := fun j u hu => by
  rw [List.getElem?_map] at hu
  cases hj : l[j]? with
  | none => rw [hj] at hu; cases hu
  | some x =>
    rw [hj] at hu
    simp only [Option.map_some, Option.some.injEq] at hu
    subst hu
    obtain ⟨hjl, rfl⟩ := List.getElem?_eq_some_iff.1 hj
    have := h.int_at hjl
    unfold Addr.add
    by_cases h0 : j = 0
    · subst h0; simpa using this
    · simpa [h0] using this
theorem addr_block (b off j : Nat) : ((⟨b, off, none⟩ : Addr).add j).block = b := by unfold Addr.add; split <;> rfl
theorem ownL_form {w : World} {base : Nat} {v y : Value} {vs : List Value} {i : Nat} (h : OwnL w base v (vs ++ [y])) (hi : vs.length = i) : ∃ A c, v = .slice A (i + 1) c := by
  rcases h.2 with ⟨_, h0⟩ | ⟨g5, cap, cur, hv, _⟩
  · exfalso; simp at h0
  · exact ⟨_, _, by rw [hv, List.length_append, hi]; rfl⟩
/-- What clone hands back. -/
def CloneR (w w' : World) (g : Gm) (vG vM : Value) : Prop := ∃ vs, OwnB w' w.heap.size vG g.1 ∧ OwnL w' w.heap.size vM vs ∧ Nest w' vs g.2 ∧ Below w.heap.size w w' ∧ ∀ i (hi : i < vs.length) q, vs[i].ownBlock = some q → w.heap.size ≤ q
set_option maxRecDepth 100000 in
set_option maxHeartbeats 40000000 in
theorem clone_any (Ag Am : Option Addr) (cg cm : Nat) (g : Gm) (w : World) (h : GmR w w.heap.size Ag Am g) (hg : GmOK g) (hn : 0 < g.1.length) :
    Calls Try.prog 25 #[.agg #[.slice Ag g.1.length cg, .slice Am g.2.length cm]] w fun e w' => ∃ vG vM, e = .returned (.agg #[vG, vM]) ∧ CloneR w w' g vG vM := by
  have H := hid h; have HG := hid hg
  obtain ⟨bG, oG, rfl, hbG, hcG⟩ := h.goal.bool_cells hn
  have hs := hg.s
  have hlm : g.2.length ≤ 1000 := by have := hg.n; omega
  obtain ⟨w1, hw1⟩ : ∃ w1, w1 = ((w.alloc (Obj.cells #[.slice (some ⟨bG, oG, none⟩) g.1.length cg, .slice Am g.2.length cm] 25)).alloc (Obj.cells #[.slice none 0 0, .slice none 0 0] 25)).alloc (Obj.cells #[] 4) := ⟨_, rfl⟩
  have s1 : w1.heap.size = w.heap.size + 1 + 1 + 1 := by rw [hw1]; simp
  have B1 := hid (show Below w.heap.size w w1 by rw [hw1]; (repeat (first | exact Below.refl _ _ | assumption | refine below_drewN ?_ _ | refine Below.drew ?_ | refine Below.alloc ?_ (by (try simp); (try omega)) _ | refine Below.setCell ?_ (by (try simp); (try omega)) _)))
  have X1 := hid (show Blk w1 w.heap.size 25 #[.slice (some ⟨bG, oG, none⟩) g.1.length cg, .slice Am g.2.length cm] by rw [hw1]; exact ((Blk.new w _ _).alloc _).alloc _)
  have Y1 := hid (show Blk w1 (w.heap.size + 1) 25 #[.slice none 0 0, .slice none 0 0] by rw [hw1]; exact (Blk.new_at (by simp)).alloc _)
  have Z1 := hid (show Blk w1 (w.heap.size + 1 + 1) 4 #[] by rw [hw1]; exact Blk.new_at (by simp))
  have O1 := hid (show OwnB w1 w.heap.size (.slice (some ⟨w.heap.size + 1 + 1, 0, none⟩) 0 0) [] from ⟨rfl, .inr ⟨_, 0, #[], rfl, by omega, Z1.out, Nat.le_refl _, by unfold maxLen; omega, rfl, rfl⟩⟩)
  have hC1 := hid (fun j u hu => by
    have h9 := hcG j u hu
    have := B1.out.cell (p := (⟨bG, oG, none⟩ : Addr).add j) (by show ((⟨bG, oG, none⟩ : Addr).add j).block < w.heap.size; unfold Addr.add; split <;> exact hbG)
    exact this.trans h9 : ∀ (j : Nat) (u : Value), (g.1.map Value.bool)[j]? = some u → w1.cell? ((⟨bG, oG, none⟩ : Addr).add j) = some u)
  have hb1 := B1.out.size
  subst hw1
  clear hcG h hg s1
  go_enter Try.func25, Try.ntmps25
  go_upto_region 2 with (at_builtin; refine wp_appBs _ rfl (.tmp 7) (.tmp 9) rfl w.heap.size (.slice (some ⟨w.heap.size + 1 + 1, 0, none⟩) 0 0) [] rfl O1.out ⟨bG, oG, none⟩ cg g.1 rfl hC1.out (by simp; omega) hb1 ?_; intro vG w2 ho2 hg2; have HO2 := hid ho2; have B2 := hid (B1.out.grown hg2 hb1 (fun q e => (own_blk O1.out q e).1)); have X2 := hid (X1.out.grown hg2 (by simp [Value.ownBlock]; omega)); have Y2 := hid (Y1.out.grown hg2 (by simp [Value.ownBlock])); have hz2 := hid hg2.size; obtain ⟨AG, cG, hvG, _, _, _⟩ := HO2.out.slr; subst hvG; clear ho2 hg2)
  have x3 := Blk.new w2 25 #[.slice AG g.1.length cG, .slice none 0 0]
  have b3 : Below w2.heap.size w2 (w2.alloc (Obj.cells #[.slice AG g.1.length cG, .slice none 0 0] 25)) := (Below.refl _ _).alloc (Nat.le_refl _) _
  have hgo : w.heap.size + 1 < w2.heap.size := Y2.out.lt
  have B3 := hid (B2.out.trans (b3.mono B2.out.size))
  have X3 := hid (X2.out.below b3 X2.out.lt)
  have Y3 := hid (Y2.out.below b3 Y2.out.lt)
  have O3 := hid (show OwnB (w2.alloc (Obj.cells #[.slice AG g.1.length cG, .slice none 0 0] 25)) w.heap.size (.slice AG g.1.length cG) g.1 from own_kt (ts := [4]) HO2.out (KT.of_below b3) (by simp))
  have Z3 := hid x3
  clear B1 X1 Y1 Z1 O1 hC1 hb1 B2 X2 Y2 HO2 hz2 b3 x3
  generalize w2.alloc (Obj.cells #[.slice AG g.1.length cG, .slice none 0 0] 25) = w3 at *
  generalize w2.heap.size = go at *
  have x0 := X3.out.cell 0; have x1 := X3.out.cell 1; have xz := X3.out.lt
  simp at x0 x1
  go_wp2_with fail
  go_loopw [4] (fun iv wr => ∃ (i : Nat) (AM : Option Addr) (cM : Nat) (vs : List Value), i ≤ g.2.length ∧ iv = .int .i64 i ∧ Blk wr go 25 #[.slice AG g.1.length cG, .slice AM i cM] ∧ OwnB wr w.heap.size (.slice AG g.1.length cG) g.1 ∧ OwnL wr w.heap.size (.slice AM i cM) vs ∧ Nest wr vs (g.2.take i) ∧ (∀ i (hi : i < vs.length) q, vs[i].ownBlock = some q → w.heap.size ≤ q) ∧ Below w.heap.size w wr ∧ Blk wr w.heap.size 25 #[.slice (some ⟨bG, oG, none⟩) g.1.length cg, .slice Am g.2.length cm] ∧ Blk wr (w.heap.size + 1) 25 #[.slice none 0 0, .slice none 0 0]) (fun iv _ => g.2.length - (intOf iv).toNat)
  case atStart => exact ⟨0, none, 0, [], by omega, rfl, Z3.out, O3.out, ⟨rfl, .inl ⟨rfl, rfl⟩⟩, by simpa using Nest.nil _, fun i hi => by simp at hi, B3.out, X3.out, Y3.out⟩
  case round =>
    clear x0 x1 xz B3 X3 Y3 O3 Z3
    obtain ⟨i, AM, cM, vs, hi, rfl, z, hO, hL, hN, hlow, hB, x, y⟩ := hrel
    have ZB := hid z; have HO := hid hO; have HLo := hid hL; have HN := hid hN; have HB := hid hB; have XB := hid x; have YB := hid y; have HLW := hid hlow
    have x0 := x.cell 0; have x1 := x.cell 1; have xz := x.lt
    have z0 := z.cell 0; have z1 := z.cell 1; have zz := z.lt
    have y0 := y.cell 0; have y1 := y.cell 1; have yz := y.lt
    have yf0 := y.frozen 0; have yf1 := y.frozen 1
    simp at x0 x1 z0 z1 y0 y1
    by_cases hlt : i < g.2.length
    case neg =>
      obtain rfl : i = g.2.length := by omega
      rw [List.take_length] at HN
      have hne : w.heap.size + 1 ≠ go := by omega
      have hfin := hid (show Blk ((wr.setCell ⟨w.heap.size + 1, 0, none⟩ (.slice AG g.1.length cG)).setCell ⟨w.heap.size + 1, 1, none⟩ (.slice AM g.2.length cM)) (w.heap.size + 1) 25 #[.slice AG g.1.length cG, .slice AM g.2.length cM] by simpa using (y.set_ 0 (.slice AG g.1.length cG)).set_ 1 (.slice AM g.2.length cM))
      have hkt := hid ((KT.of_set (ts := [4, 3, 41, 38]) (i := 0) y (by decide) (.slice AG g.1.length cG)).trans (KT.of_set (i := 1) (y.set_ 0 (.slice AG g.1.length cG)) (by decide) (.slice AM g.2.length cM)))
      have hBf := hid ((hB.setCell (p := ⟨w.heap.size + 1, 0, none⟩) (by show w.heap.size ≤ w.heap.size + 1; omega) (.slice AG g.1.length cG)).setCell (p := ⟨w.heap.size + 1, 1, none⟩) (by show w.heap.size ≤ w.heap.size + 1; omega) (.slice AM g.2.length cM))
      clear hO hL hN hlow hB x y z
      go_wp2_with fail
      refine bodyPost_ret (results_cell_row Try.results25 _ _ (w.heap.size + 1) 25 #[.slice AG g.1.length cG, .slice AM g.2.length cM] (0, 0) _ rfl hfin.out Try.underlying25 rfl (by kernel_rfl)) rfl ?_
      exact ⟨_, _, rfl, vs, own_kt HO.out hkt.out (by decide), own_kt HLo.out hkt.out (by decide), HN.out.kt hkt.out (by decide) (by decide), hBf.out, HLW.out⟩
    have hlt' : (i : Int) < g.2.length := by omega
    have hL0 := H.out.mvs.list hlt
    have hLm := hid (HG.out.m _ (List.getElem_mem hlt))
    have hLl := HG.out.l _ (List.getElem_mem hlt)
    have hai := hid (H.out.acts _ (List.getElem_mem hlt))
    have htk := hid (show g.2.take (i + 1) = g.2.take i ++ [g.2[i]] by rw [List.take_add_one, List.getElem?_eq_getElem hlt]; rfl)
    generalize g.2[i] = l at *
    obtain ⟨bM, oM, A', c', rfl, hbM, hcM, h5, h6, hsM⟩ := hL0
    have HCM := hid hcM; have HSM := hid hsM
    have hll : l.length ≤ 1000 := hLl
    have hzw := hid hB.size
    have HX := hid (show ∀ wq, Below wr.heap.size wr wq → wq.cell? ⟨w.heap.size, 1, none⟩ = some (.slice (some ⟨bM, oM, none⟩) g.2.length cm) ∧ wq.cell? ⟨bM, oM + i, none⟩ = some (.slice A' l.length c') ∧ bM < wq.heap.size ∧ w.heap.size < wq.heap.size ∧ Below w.heap.size w wq from fun wq hb => by
      have e1 := (x.below hb xz).cell 1
      simp at e1
      have hb9 := hB.trans (hb.mono hB.size)
      exact ⟨e1, (bcell hb9 bM _ hbM).trans HCM.out, by have := hb9.size; omega, (x.below hb xz).lt, hb9⟩)
    clear hO hL hN hlow hB x y z hcM hsM h5 h6 hLl z0 z1 y0 y1 yz yf0 yf1
    generalize hwi : wr = wi at *
    clear hwi
    go_wp2_with fail
    go_loopw [5, 6] (fun lv kv wq => ∃ (k : Nat) (AL : Option Addr) (cL : Nat) (xs : List (Int × Value)), k ≤ l.length ∧ kv = .int .i64 k ∧ lv = .slice AL k cL ∧ OwnM wq wi.heap.size (.slice AL k cL) xs ∧ MvR wq xs (l.take k) ∧ Below wi.heap.size wi wq) (fun _ kv _ => l.length - (intOf kv).toNat)
    case atStart => exact ⟨0, none, 0, [], by omega, rfl, rfl, ⟨rfl, .inl ⟨rfl, rfl⟩⟩, by simpa using MvR.nil _, Below.refl _ _⟩
    case round =>
      obtain ⟨k, AL, cL, xs, hk, rfl, rfl, hM, hR, hB⟩ := hrel
      clear x0 x1 xz
      have HM := hid hM; have HR := hid hR; have HBi := hid hB
      obtain ⟨x1, hcM, hzM, xz, hBw⟩ := HX.out wr hB
      have HBw := hid hBw
      have hxl := hid (show xs.length ≤ 1000 by have := hR.len; simp at this; omega)
      by_cases hkl : k < l.length
      case neg =>
        obtain rfl : k = l.length := by omega
        rw [List.take_length] at hR
        have Z2 := hid (ZB.out.below hB ZB.out.lt)
        have z0 := Z2.out.cell 0; have z1 := Z2.out.cell 1; have zz := Z2.out.lt; have zf := Z2.out.frozen 1
        simp at z0 z1
        have hvl := hid HLo.out.1
        have b4 : Below wr.heap.size wr (wr.alloc (Obj.cells #[.slice AL l.length cL] 38)) := (Below.refl _ _).alloc (Nat.le_refl _) _
        have L4 := hid (show OwnL (wr.alloc (Obj.cells #[.slice AL l.length cL] 38)) w.heap.size (.slice AM i cM) vs from own_kt (ts := [38]) (own_kt (ts := [38]) HLo.out (KT.of_below hB) (by simp)) (KT.of_below b4) (by simp))
        have N4 := hid (((HN.out.kt (ts := [3, 41]) (KT.of_below hB) (by simp) (by simp)).snoc hM hR (fun j hj q hq => HN.out.low j hj q hq)).kt (ts := [3, 41]) (KT.of_below b4) (by simp) (by simp))
        have O4 := hid (own_kt (ts := [4]) (own_kt (ts := [4]) HO.out (KT.of_below hB) (by simp)) (KT.of_below b4) (by simp))
        have ZB4 := hid (Z2.out.below b4 Z2.out.lt)
        have XB4 := hid ((XB.out.below hB XB.out.lt).below b4 (XB.out.below hB XB.out.lt).lt)
        have YB4 := hid ((YB.out.below hB YB.out.lt).below b4 (YB.out.below hB YB.out.lt).lt)
        have B4 := hid (hBw.trans (b4.mono hBw.size))
        have hnb := hid (Blk.new wr 38 #[.slice AL l.length cL])
        have hlow2 := hid (show ∀ j (hj : j < (vs ++ [Value.slice AL l.length cL]).length) q, (vs ++ [Value.slice AL l.length cL])[j].ownBlock = some q → w.heap.size ≤ q from fun j hj q hq => by
          by_cases h1 : j < vs.length
          · rw [List.getElem_append_left h1] at hq; exact HLW.out j h1 q hq
          · have e : j = vs.length := by simp at hj; omega
            subst e
            simp at hq
            have := (own_blk hM q hq).1; have := hzw.out; omega)
        have hvn := hid (show vs.length ≤ 1000000 by have := HN.out.len; simp at this; omega)
        have hiv := hid (show vs.length = i by have := HN.out.len; simp at this; omega)
        have hgw := hid (show w.heap.size ≤ wr.heap.size from hBw.size)
        clear hM hR hB hBw HM HR HBi HBw b4
        go_wp2_with (at_builtin; refine wp_appLs _ rfl (.tmp 54) (.tmp 56) rfl w.heap.size (.slice AM i cM) vs rfl L4.out wr.heap.size 1 (.slice AL l.length cL) rfl rfl hnb.out hvn.out B4.out.size ?_; intro vM w5 ho5 hg5; have LL5 := hid ho5; have hk5 := hid (KT.of_grown (ts := [3, 41, 4, 25]) hg5 (fun q e => by obtain ⟨_, cs, hb⟩ := own_blk L4.out q e; exact ⟨_, cs, hb, by decide⟩)); have B5 := hid (B4.out.grown hg5 B4.out.size (fun q e => (own_blk L4.out q e).1)); have ZB5 := hid (hk5.out _ _ _ (by decide) ZB4.out); have r0 := ZB5.out.cell 0; have r1 := ZB5.out.cell 1; have rz := ZB5.out.lt; have rf := ZB5.out.frozen 1; simp at r0 r1; obtain ⟨AV, cV, hvM⟩ := ownL_form ho5 hiv.out; subst hvM; clear ho5 hg5)
        have hset := hid (KT.of_set (ts := [3, 41, 4, 38]) (i := 1) ZB5.out (by decide) (.slice AV (i + 1) cV))
        have hset2 := hid (KT.of_set (ts := [3]) (i := 1) ZB5.out (by decide) (.slice AV (i + 1) cV))
        have x6 := hid (show Blk _ w.heap.size 25 #[.slice (some ⟨bG, oG, none⟩) g.1.length cg, .slice (some ⟨bM, oM, none⟩) g.2.length cm] from Blk.grown (hk5.out _ _ _ (by decide) XB4.out) (gr_set w5 go 1 (.slice AV (i + 1) cV)) (by simp; omega))
        have y6 := hid (show Blk _ (w.heap.size + 1) 25 #[.slice none 0 0, .slice none 0 0] from Blk.grown (hk5.out _ _ _ (by decide) YB4.out) (gr_set w5 go 1 (.slice AV (i + 1) cV)) (by simp; omega))
        have z6 := hid (show Blk (w5.setCell ⟨go, 1, none⟩ (.slice AV (i + 1) cV)) go 25 #[.slice AG g.1.length cG, .slice AV (i + 1) cV] by simpa using ZB5.out.set_ 1 (.slice AV (i + 1) cV))
        have o6 := hid (show OwnB (w5.setCell ⟨go, 1, none⟩ (.slice AV (i + 1) cV)) w.heap.size (.slice AG g.1.length cG) g.1 from own_kt (own_kt O4.out hk5.out (by decide)) hset.out (by decide))
        have l6 := hid (show OwnL (w5.setCell ⟨go, 1, none⟩ (.slice AV (i + 1) cV)) w.heap.size (.slice AV (i + 1) cV) (vs ++ [.slice AL l.length cL]) from own_kt LL5.out hset.out (by decide))
        have n6 := hid ((N4.out.kt hk5.out (by decide) (by decide)).kt hset.out (by decide) (by decide))
        have b6 := hid (B5.out.setCell (p := ⟨go, 1, none⟩) (by show w.heap.size ≤ go; omega) (.slice AV (i + 1) cV))
        go_wp2_with fail
        go_roundw
        case rel => exact ⟨i + 1, AV, cV, vs ++ [.slice AL l.length cL], by omega, by go_num, z6.out, o6.out, l6.out, by rw [htk.out]; exact n6.out, hlow2.out, b6.out, x6.out, y6.out⟩
        case measure => simp [intOf]; omega
      have htk2 := hid (show l.take (k + 1) = l.take k ++ [l[k]] by rw [List.take_add_one, List.getElem?_eq_getElem hkl]; rfl)
      have hmk := hLm.out _ (List.getElem_mem hkl)
      obtain ⟨b4, off4, A4, c4, rfl, hb4, m0, m1, _, _, hs4, hs4i⟩ := HSM.out.mv hkl
      generalize l[k] = mk at *
      obtain ⟨act, tos⟩ := mk
      simp only at m0 m1 hs4 hs4i hmk
      have htl : 0 < tos.length := List.length_pos_iff.2 hmk.2.2.1
      obtain ⟨b5, off5, rfl, hb5, _⟩ := hs4.int htl
      have htn : tos.length ≤ 1000 := hmk.1
      have HTI := hid hs4.ints
      have HI4 := hid hs4i
      have HC5 := hid hs4.int_cellsD
      have M0 := hid m0
      have M1 := hid m1
      have HS9 := hid (show ∀ wq, Below wi.heap.size wi wq → wq.cell? ⟨w.heap.size, 1, none⟩ = some (.slice (some ⟨bM, oM, none⟩) g.2.length cm) ∧ wq.cell? ⟨bM, oM + i, none⟩ = some (.slice (some ⟨b4, off4, none⟩) l.length c') ∧ wq.cell? ⟨b4, off4 + k * 2, none⟩ = some (.int .i64 act) ∧ wq.cell? ⟨b4, off4 + k * 2 + 1, none⟩ = some (.slice (some ⟨b5, off5, none⟩) tos.length c4) from fun wq hb => by
        obtain ⟨h1, h2, _, _, h9⟩ := HX.out wq hb
        exact ⟨h1, h2, (bcell h9 b4 _ hb4).trans M0.out, (bcell h9 b4 _ hb4).trans M1.out⟩)
      have hBA := hid (show Below wr.heap.size wr ((wr.alloc (Obj.cells #[] 3)).drew) by (repeat (first | exact Below.refl _ _ | assumption | refine below_drewN ?_ _ | refine Below.drew ?_ | refine Below.alloc ?_ (by (try simp); (try omega)) _ | refine Below.setCell ?_ (by (try simp); (try omega)) _)))
      have O9 := hid (show OwnI ((wr.alloc (Obj.cells #[] 3)).drew) wr.heap.size (.slice (some ⟨wr.heap.size, 0, none⟩) 0 0) [] from ⟨rfl, .inr ⟨_, 0, #[], rfl, Nat.le_refl _, (Blk.new wr 3 #[]).drew, Nat.le_refl _, by unfold maxLen; omega, rfl, rfl⟩⟩)
      have hbz := hid (show wr.heap.size ≤ ((wr.alloc (Obj.cells #[] 3)).drew).heap.size by simp)
      have hiw := hid (show wi.heap.size ≤ wr.heap.size from HBi.out.size)
      have hC9 := hid (fun (wq : World) (hb : Below wi.heap.size wi wq) (j : Nat) (u : Value) (hu : (tos.map (Value.int .i64))[j]? = some u) => by
        have h9 := (HX.out wq hb).2.2.2.2
        exact (h9.cell (p := (⟨b5, off5, none⟩ : Addr).add j) (by rw [addr_block]; exact hb5)).trans (HC5.out j u hu) : ∀ wq, Below wi.heap.size wi wq → ∀ (j : Nat) (u : Value), (tos.map (Value.int .i64))[j]? = some u → wq.cell? ((⟨b5, off5, none⟩ : Addr).add j) = some u)
      clear hM hR hB hs4 hs4i hmk m0 m1 hBw
      go_upto_region 9 with fail
      refine wpIn_wide.1 (wpIn_region_S (n := 0) (fun wq => wq.cell? ⟨w.heap.size, 1, none⟩ = some (.slice (some ⟨bM, oM, none⟩) g.2.length cm) ∧ wq.cell? ⟨bM, oM + i, none⟩ = some (.slice (some ⟨b4, off4, none⟩) l.length c') ∧ wq.cell? ⟨b4, off4 + k * 2, none⟩ = some (.int .i64 act) ∧ wq.cell? ⟨b4, off4 + k * 2 + 1, none⟩ = some (.slice (some ⟨b5, off5, none⟩) tos.length c4)) [23] (by kernel_rfl) (HS9.out _ HBi.out.drew) (fun hHeld => ?_))
      refine wpAnyS_pure 0 (v := ?_) (fun _ => trivial) (by simp only [List.getElem?_toArray, List.getElem?_cons_succ, List.getElem?_cons_zero]; rfl) (by kernel_rfl) (fun _ _ _ _ _ h => h) ⟨rfl, (by intro c h; cases h), ?_⟩ hHeld ?_
      rotate_left
      focus (intro wS hSw; (try dsimp only at hSw); go_simp; (try with_reducible rfl))
      (try simp only [Act.put, List.setIfInBounds_toArray, List.set_cons_zero, List.set_cons_succ])
      refine wpAnyS_pure 1 (v := ?_) (fun _ => trivial) (by simp only [List.getElem?_toArray, List.getElem?_cons_succ, List.getElem?_cons_zero]; rfl) (by kernel_rfl) (fun _ _ _ _ _ h => h) ⟨rfl, (by intro c h; cases h), ?_⟩ hHeld ?_
      rotate_left
      focus (intro wS hSw; (try dsimp only at hSw); go_simp; (try with_reducible rfl))
      (try simp only [Act.put, List.setIfInBounds_toArray, List.set_cons_zero, List.set_cons_succ])
      refine wpAnyS_take 2 (v := ?_) (fun _ => trivial) (by simp only [List.getElem?_toArray, List.getElem?_cons_succ, List.getElem?_cons_zero]; rfl) (by kernel_rfl) (fun _ _ _ _ _ h => h) ⟨rfl, (by intro c h; cases h), ?_⟩ hHeld ?_
      rotate_left
      focus (intro wS hSw; (try dsimp only at hSw); go_simp; (try with_reducible rfl))
      (try simp only [Act.put, List.setIfInBounds_toArray, List.set_cons_zero, List.set_cons_succ])
      refine wpAnyS_pure 3 (v := ?_) (fun _ => trivial) (by simp only [List.getElem?_toArray, List.getElem?_cons_succ, List.getElem?_cons_zero]; rfl) (by kernel_rfl) (fun _ _ _ _ _ h => h) ⟨rfl, (by intro c h; cases h), ?_⟩ hHeld ?_
      rotate_left
      focus (intro wS hSw; (try dsimp only at hSw); go_simp; (try with_reducible rfl))
      (try simp only [Act.put, List.setIfInBounds_toArray, List.set_cons_zero, List.set_cons_succ])
      refine wpAnyS_pure 4 (v := ?_) (fun _ => trivial) (by simp only [List.getElem?_toArray, List.getElem?_cons_succ, List.getElem?_cons_zero]; rfl) (by kernel_rfl) (fun _ _ _ _ _ h => h) ⟨rfl, (by intro c h; cases h), ?_⟩ hHeld ?_
      rotate_left
      focus (intro wS hSw; (try dsimp only at hSw); go_simp; (try with_reducible rfl))
      (try simp only [Act.put, List.setIfInBounds_toArray, List.set_cons_zero, List.set_cons_succ])
      refine wpAnyS_take 5 (v := ?_) (fun _ => trivial) (by simp only [List.getElem?_toArray, List.getElem?_cons_succ, List.getElem?_cons_zero]; rfl) (by kernel_rfl) (fun _ _ _ _ _ h => h) ⟨rfl, (by intro c h; cases h), ?_⟩ hHeld ?_
      rotate_left
      focus (intro wS hSw; (try dsimp only at hSw); go_simp; (try with_reducible rfl))
      (try simp only [Act.put, List.setIfInBounds_toArray, List.set_cons_zero, List.set_cons_succ])
      refine wpAnyS_pure 6 (v := ?_) (fun _ => trivial) (by simp only [List.getElem?_toArray, List.getElem?_cons_succ, List.getElem?_cons_zero]; rfl) (by kernel_rfl) (fun _ _ _ _ _ h => h) ⟨rfl, (by intro c h; cases h), ?_⟩ hHeld ?_
      rotate_left
      focus (intro wS hSw; (try dsimp only at hSw); go_simp; (try with_reducible rfl))
      (try simp only [Act.put, List.setIfInBounds_toArray, List.set_cons_zero, List.set_cons_succ])
      refine wpAnyS_pure 7 (v := ?_) (fun _ => trivial) (by simp only [List.getElem?_toArray, List.getElem?_cons_succ, List.getElem?_cons_zero]; rfl) (by kernel_rfl) (fun _ _ _ _ _ h => h) ⟨rfl, (by intro c h; cases h), ?_⟩ hHeld ?_
      rotate_left
      focus (intro wS hSw; (try dsimp only at hSw); go_simp; (try with_reducible rfl))
      (try simp only [Act.put, List.setIfInBounds_toArray, List.set_cons_zero, List.set_cons_succ])
      refine wpAnyS_pure 8 (v := ?_) (fun _ => trivial) (by simp only [List.getElem?_toArray, List.getElem?_cons_succ, List.getElem?_cons_zero]; rfl) (by kernel_rfl) (fun _ _ _ _ _ h => h) ⟨rfl, (by intro c h; cases h), ?_⟩ hHeld ?_
      rotate_left
      focus (intro wS hSw; (try dsimp only at hSw); go_simp; (try with_reducible rfl))
      (try simp only [Act.put, List.setIfInBounds_toArray, List.set_cons_zero, List.set_cons_succ])
      refine wpAnyS_take 9 (v := ?_) (fun _ => trivial) (by simp only [List.getElem?_toArray, List.getElem?_cons_succ, List.getElem?_cons_zero]; rfl) (by kernel_rfl) (fun _ _ _ _ _ h => h) ⟨rfl, (by intro c h; cases h), ?_⟩ hHeld ?_
      rotate_left
      focus (intro wS hSw; (try dsimp only at hSw); go_simp; (try with_reducible rfl))
      (try simp only [Act.put, List.setIfInBounds_toArray, List.set_cons_zero, List.set_cons_succ])
      refine wpAnyS_pure 11 (v := ?_) (fun _ => trivial) (by simp only [List.getElem?_toArray, List.getElem?_cons_succ, List.getElem?_cons_zero]; rfl) (by kernel_rfl) (fun _ _ _ _ _ h => h) ⟨rfl, (by intro c h; cases h), ?_⟩ hHeld ?_
      rotate_left
      focus (intro wS hSw; (try dsimp only at hSw); go_simp; (try with_reducible rfl))
      (try simp only [Act.put, List.setIfInBounds_toArray, List.set_cons_zero, List.set_cons_succ])
      refine wpAnyS_take 12 (v := ?_) (fun _ => trivial) (by simp only [List.getElem?_toArray, List.getElem?_cons_succ, List.getElem?_cons_zero]; rfl) (by kernel_rfl) (fun _ _ _ _ _ h => h) ⟨rfl, (by intro c h; cases h), ?_⟩ hHeld ?_
      rotate_left
      focus (intro wS hSw; (try dsimp only at hSw); go_simp; (try with_reducible rfl))
      (try simp only [Act.put, List.setIfInBounds_toArray, List.set_cons_zero, List.set_cons_succ])
      refine wpAnyS_pure 13 (v := ?_) (fun _ => trivial) (by simp only [List.getElem?_toArray, List.getElem?_cons_succ, List.getElem?_cons_zero]; rfl) (by kernel_rfl) (fun _ _ _ _ _ h => h) ⟨rfl, (by intro c h; cases h), ?_⟩ hHeld ?_
      rotate_left
      focus (intro wS hSw; (try dsimp only at hSw); go_simp; (try with_reducible rfl))
      (try simp only [Act.put, List.setIfInBounds_toArray, List.set_cons_zero, List.set_cons_succ])
      refine wpAnyS_pure 14 (v := ?_) (fun _ => trivial) (by simp only [List.getElem?_toArray, List.getElem?_cons_succ, List.getElem?_cons_zero]; rfl) (by kernel_rfl) (fun _ _ _ _ _ h => h) ⟨rfl, (by intro c h; cases h), ?_⟩ hHeld ?_
      rotate_left
      focus (intro wS hSw; (try dsimp only at hSw); go_simp; (try with_reducible rfl))
      (try simp only [Act.put, List.setIfInBounds_toArray, List.set_cons_zero, List.set_cons_succ])
      refine wpAnyS_take 15 (v := ?_) (fun _ => trivial) (by simp only [List.getElem?_toArray, List.getElem?_cons_succ, List.getElem?_cons_zero]; rfl) (by kernel_rfl) (fun _ _ _ _ _ h => h) ⟨rfl, (by intro c h; cases h), ?_⟩ hHeld ?_
      rotate_left
      focus (intro wS hSw; (try dsimp only at hSw); go_simp; (try with_reducible rfl))
      (try simp only [Act.put, List.setIfInBounds_toArray, List.set_cons_zero, List.set_cons_succ])
      refine wpAnyS_pure 16 (v := ?_) (fun _ => trivial) (by simp only [List.getElem?_toArray, List.getElem?_cons_succ, List.getElem?_cons_zero]; rfl) (by kernel_rfl) (fun _ _ _ _ _ h => h) ⟨rfl, (by intro c h; cases h), ?_⟩ hHeld ?_
      rotate_left
      focus (intro wS hSw; (try dsimp only at hSw); go_simp; (try with_reducible rfl))
      (try simp only [Act.put, List.setIfInBounds_toArray, List.set_cons_zero, List.set_cons_succ])
      refine wpAnyS_pure 17 (v := ?_) (fun _ => trivial) (by simp only [List.getElem?_toArray, List.getElem?_cons_succ, List.getElem?_cons_zero]; rfl) (by kernel_rfl) (fun _ _ _ _ _ h => h) ⟨rfl, (by intro c h; cases h), ?_⟩ hHeld ?_
      rotate_left
      focus (intro wS hSw; (try dsimp only at hSw); go_simp; (try with_reducible rfl))
      (try simp only [Act.put, List.setIfInBounds_toArray, List.set_cons_zero, List.set_cons_succ])
      refine wpAnyS_pure 18 (v := ?_) (fun _ => trivial) (by simp only [List.getElem?_toArray, List.getElem?_cons_succ, List.getElem?_cons_zero]; rfl) (by kernel_rfl) (fun _ _ _ _ _ h => h) ⟨rfl, (by intro c h; cases h), ?_⟩ hHeld ?_
      rotate_left
      focus (intro wS hSw; (try dsimp only at hSw); go_simp; (try with_reducible rfl))
      (try simp only [Act.put, List.setIfInBounds_toArray, List.set_cons_zero, List.set_cons_succ])
      refine wpAnyS_take 19 (v := ?_) (fun _ => trivial) (by simp only [List.getElem?_toArray, List.getElem?_cons_succ, List.getElem?_cons_zero]; rfl) (by kernel_rfl) (fun _ _ _ _ _ h => h) ⟨rfl, (by intro c h; cases h), ?_⟩ hHeld ?_
      rotate_left
      focus (intro wS hSw; (try dsimp only at hSw); go_simp; (try with_reducible rfl))
      (try simp only [Act.put, List.setIfInBounds_toArray, List.set_cons_zero, List.set_cons_succ])
      refine wpAnyS_ready [10] (by kernel_rfl) (by simp) (AllReadyS.cons (by simp only [List.getElem?_toArray, List.getElem?_cons_succ, List.getElem?_cons_zero]; rfl) rfl (fun K hK => ?_) AllReadyS.nil)
      go_simp
      refine hK.out _ _ (HS9.out _ (HBi.out.trans (hBA.out.mono hiw.out))) ?_
      clear hK K hHeld
      refine wpAnyS_ready [20] (by kernel_rfl) (by simp) (AllReadyS.cons (by simp only [List.getElem?_toArray, List.getElem?_cons_succ, List.getElem?_cons_zero]; rfl) rfl (fun K hK => ?_) AllReadyS.nil)
      refine appIntsS (fun _ => trivial) _ (.tmp 39) (.tmp 48) rfl wr.heap.size (.slice (some ⟨wr.heap.size, 0, none⟩) 0 0) [] rfl O9.out ⟨b5, off5, none⟩ c4 tos rfl (hC9.out _ (HBi.out.trans (hBA.out.mono hiw.out))) htl (by simp; omega) hbz.out ?_
      intro vT w5 hoT hgT
      have OT := hid hoT
      have BT := hid (hBA.out.grown hgT hbz.out (fun q e => by simp [Value.ownBlock] at e; omega))
      obtain ⟨AT, cT, hvT, _⟩ := OT.out.form
      simp only [List.nil_append] at hvT
      subst hvT
      have hHeld := HS9.out _ (HBi.out.trans (BT.out.mono hiw.out))
      refine hK.out _ _ hHeld ?_
      clear hK K hoT hgT
      refine wpAnyS_pure 21 (v := ?_) (fun _ => trivial) (by simp only [List.getElem?_toArray, List.getElem?_cons_succ, List.getElem?_cons_zero]; rfl) (by kernel_rfl) (fun _ _ _ _ _ h => h) ⟨rfl, (by intro c h; cases h), ?_⟩ hHeld ?_
      rotate_left
      focus (intro wS hSw; (try dsimp only at hSw); go_simp; (try with_reducible rfl))
      (try simp only [Act.put, List.setIfInBounds_toArray, List.set_cons_zero, List.set_cons_succ])
      refine wpAnyS_ready [22] (by kernel_rfl) (by simp) (AllReadyS.cons (by simp only [List.getElem?_toArray, List.getElem?_cons_succ, List.getElem?_cons_zero]; rfl) rfl (fun K hK => ?_) AllReadyS.nil)
      go_simp
      have b7 := hid (show Below w5.heap.size w5 (w5.alloc (Obj.cells #[.int .i64 act, .slice AT tos.length cT] 41)) by (repeat (first | exact Below.refl _ _ | assumption | refine below_drewN ?_ _ | refine Below.drew ?_ | refine Below.alloc ?_ (by (try simp); (try omega)) _ | refine Below.setCell ?_ (by (try simp); (try omega)) _)))
      have B7 := hid (BT.out.trans (b7.out.mono BT.out.size))
      have M7 := hid (own_kt (ts := [41]) HM.out (KT.of_below B7.out) (by simp))
      have N7 := hid (Blk.new w5 41 #[.int .i64 act, .slice AT tos.length cT])
      have T7 := hid (own_kt (ts := [3]) OT.out (KT.of_below b7.out) (by simp))
      have R7 := hid (HR.out.kt (ts := [3]) (KT.of_below B7.out) (by simp))
      have s7 := hid (show wi.heap.size ≤ (w5.alloc (Obj.cells #[.int .i64 act, .slice AT tos.length cT] 41)).heap.size from Nat.le_trans hiw.out B7.out.size)
      have BI7 := hid (HBi.out.trans (B7.out.mono hiw.out))
      refine hK.out _ _ (HS9.out _ BI7.out) ?_
      clear hK K
      refine wpAnyS_ready [23] (by kernel_rfl) (by simp) (AllReadyS.consL (by simp only [List.getElem?_toArray, List.getElem?_cons_succ, List.getElem?_cons_zero]; rfl) rfl (by kernel_rfl) (fun K hK => ?_) AllReadyS.nil)
      refine appMvS (fun _ => trivial) _ (.tmp 29) (.tmp 51) rfl wi.heap.size (.slice AL k cL) xs rfl M7.out w5.heap.size 1 (act, .slice AT tos.length cT) rfl rfl N7.out (by have := hxl.out; omega) s7.out ?_
      intro vL w8 hoL hgL
      have OL8 := hid hoL
      have k8 := hid (KT.of_grown (ts := [3]) hgL (fun q e => by obtain ⟨_, cs, hb⟩ := own_blk M7.out q e; exact ⟨_, cs, hb, by decide⟩))
      have B8 := hid (BI7.out.grown hgL s7.out (fun q e => (own_blk M7.out q e).1))
      have hkn := hid (show xs.length = k by have := HR.out.len; simp at this; omega)
      obtain ⟨AW, cW, rfl⟩ : ∃ A c, vL = .slice A (k + 1) c := by
        rcases OL8.out.2 with ⟨_, h0⟩ | ⟨g5, cap, cur, hv, _⟩
        · exfalso; simp at h0
        · exact ⟨_, _, by rw [hv, List.length_append, hkn.out]; rfl⟩
      have R8 := hid (show MvR w8 (xs ++ [(act, .slice AT tos.length cT)]) (l.take (k + 1)) by
        rw [htk2.out]
        exact (R7.out.snoc HI4.out (own_base T7.out (Nat.zero_le _)) HTI.out).kt k8.out (by decide))
      refine hK.out _ _ ?_
      clear hK K hoL hgL hHeld
      refine wpAnyS_pureL 24 (v := ?_) (fun _ => trivial) (by simp only [List.getElem?_toArray, List.getElem?_cons_succ, List.getElem?_cons_zero]; rfl) (by kernel_rfl) (by kernel_rfl) (fun _ _ _ _ _ h => h) ⟨rfl, (by intro c h; cases h), ?_⟩ ?_
      rotate_left
      focus (intro wS hSw; (try dsimp only at hSw); go_simp; (try with_reducible rfl))
      (try simp only [Act.put, List.setIfInBounds_toArray, List.set_cons_zero, List.set_cons_succ])
      refine wpAnyS_done (by kernel_rfl) ?_
      go_wp2_with fail
      go_roundw
      case rel => exact ⟨k + 1, AW, cW, xs ++ [(act, .slice AT tos.length cT)], by omega, by go_num, rfl, OL8.out, R8.out, B8.out⟩
      case measure => simp [intOf]; omega
end Go.Proofs.Ytiaplhdgchbkkaa
