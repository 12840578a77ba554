
/- Game: begin, the walk. -/
import Derived.Test.YtdjjhflhdhihcaaGamDb
set_option linter.unusedSimpArgs false
set_option linter.unusedVariables false
namespace Go.Proofs.Ytdjjhflhdhihcaa
open Go.RowKit Go.IntWalk

set_option maxRecDepth 100000 in
set_option maxHeartbeats 40000000 in
theorem begin_any (Ag Am : Option Addr) (cg cm : Nat) (g : Gm) (w : World) (h : GmR w w.heap.size Ag Am g) (hg : GmOK g) :
    Calls Try.prog 30 #[.agg #[.slice Ag g.1.length cg, .slice Am g.2.length cm]] w fun e w' => ∃ b gi, e = .returned (.pointer (some ⟨b, 0, none⟩)) ∧ BS w w' b gi Ag Am cg cm g (start g).R ((start g).Q.map Int.ofNat) (flatF 0 g.2) [] := by
  have hn := hg.n; have hs := hg.s
  obtain ⟨goal, mvs⟩ := g
  simp only at hn hs
  obtain ⟨i0, hi, hz0, hz1, hz2⟩ := info_parts infoSl
  have hmk : ∀ W : World, (Instr.makeSlice 68 (.int .i64 (goal.length : Int)) (.int .i64 (goal.length : Int))).run Try.prog W = .ok (.slice (some ⟨W.heap.size, 0, none⟩) goal.length goal.length) (W.alloc (.cells (madeCells (Value.slice none 0 0).cells (goal.length * 1)) 34)) := fun W => by
    have := run_make_rowN (P := Try.prog) 68 34 i0 _ Try.underlying68 hi hz0 .i64 .i64 goal.length goal.length (Nat.le_refl _) (by rw [hz2]; omega) (by omega) W
    rw [hz1] at this
    exact this
  have H := hid h
  have HN := hid hn
  have hmn := made_nil goal.length
  rw [hmn] at hmk
  clear h hn hmn hi hz0 hz1 hz2 i0
  go_enter Try.func30, Try.ntmps30
  go_upto_region 1 with fail
  go_region
  have hB0 := hid (show Below w.heap.size w ((((w.alloc (Obj.cells #[.slice Ag goal.length cg, .slice Am mvs.length cm] 25)).alloc (Obj.cells (Array.replicate goal.length (.slice none 0 0)) 34)).alloc (Obj.cells #[.slice Ag goal.length cg, .slice Am mvs.length cm, .slice none 0 0, .slice none 0 0, .slice none 0 0, .slice (some ⟨w.heap.size + 1, 0, none⟩) goal.length goal.length, .slice none 0 0] 70)).drew) by
    exact ((((Below.refl _ w).alloc (Nat.le_refl _) _).alloc (by simp) _).alloc (by simp; omega) _).drew)
  have hS0 := hid (show BS w ((((w.alloc (Obj.cells #[.slice Ag goal.length cg, .slice Am mvs.length cm] 25)).alloc (Obj.cells (Array.replicate goal.length (.slice none 0 0)) 34)).alloc (Obj.cells #[.slice Ag goal.length cg, .slice Am mvs.length cm, .slice none 0 0, .slice none 0 0, .slice none 0 0, .slice (some ⟨w.heap.size + 1, 0, none⟩) goal.length goal.length, .slice none 0 0] 70)).drew) (w.heap.size + 2) (w.heap.size + 1) Ag Am cg cm (goal, mvs) (rkG (goal.take 0)) (quG goal 0) (flatF 0 (mvs.take 0)) [] from by
    refine ⟨.slice none 0 0, .slice none 0 0, .slice none 0 0, .slice none 0 0, List.replicate goal.length (.slice none 0 0), ⟨?_, ?_, ?_, ?_⟩, hB0.out, ?_⟩
    · have := Blk.new_at (w := ((w.alloc (Obj.cells #[.slice Ag goal.length cg, .slice Am mvs.length cm] 25)).alloc (Obj.cells (Array.replicate goal.length (.slice none 0 0)) 34))) (t := 70) (cs := #[.slice Ag goal.length cg, .slice Am mvs.length cm, .slice none 0 0, .slice none 0 0, .slice none 0 0, .slice (some ⟨w.heap.size + 1, 0, none⟩) goal.length goal.length, .slice none 0 0]) (g := w.heap.size + 2) (by simp)
      simpa using this.drew
    · have := ((Blk.new_at (w := w.alloc (Obj.cells #[.slice Ag goal.length cg, .slice Am mvs.length cm] 25)) (t := 34) (cs := Array.replicate goal.length (.slice none 0 0)) (g := w.heap.size + 1) (by simp)).alloc (Obj.cells #[.slice Ag goal.length cg, .slice Am mvs.length cm, .slice none 0 0, .slice none 0 0, .slice none 0 0, .slice (some ⟨w.heap.size + 1, 0, none⟩) goal.length goal.length, .slice none 0 0] 70)).drew
      simpa using this
    · have := fam_nil ((((w.alloc (Obj.cells #[.slice Ag goal.length cg, .slice Am mvs.length cm] 25)).alloc (Obj.cells (Array.replicate goal.length (.slice none 0 0)) 34)).alloc (Obj.cells #[.slice Ag goal.length cg, .slice Am mvs.length cm, .slice none 0 0, .slice none 0 0, .slice none 0 0, .slice (some ⟨w.heap.size + 1, 0, none⟩) goal.length goal.length, .slice none 0 0] 70)).drew) w.heap.size goal.length
      simpa [flatF, quG, rkG, ilist_start] using this
    · omega
    · exact (((Blk.new w _ _).alloc _).alloc _).drew)
  generalize hw2 : (((w.alloc (Obj.cells #[.slice Ag goal.length cg, .slice Am mvs.length cm] 25)).alloc (Obj.cells (Array.replicate goal.length (.slice none 0 0)) 34)).alloc (Obj.cells #[.slice Ag goal.length cg, .slice Am mvs.length cm, .slice none 0 0, .slice none 0 0, .slice none 0 0, .slice (some ⟨w.heap.size + 1, 0, none⟩) goal.length goal.length, .slice none 0 0] 70)).drew = w2 at hS0 hB0 ⊢
  clear hw2 hmk hB0
  obtain ⟨b, hb2⟩ : ∃ b, w.heap.size + 2 = b := ⟨_, rfl⟩
  obtain ⟨gi, hgi⟩ : ∃ gi, w.heap.size + 1 = gi := ⟨_, rfl⟩
  rw [hb2, hgi] at hS0
  (try rw [hb2])
  clear hb2 hgi
  obtain ⟨x0, x1⟩ : w2.cell? ⟨w.heap.size, 0, none⟩ = some (.slice Ag goal.length cg) ∧ w2.cell? ⟨w.heap.size, 1, none⟩ = some (.slice Am mvs.length cm) := by
    obtain ⟨_, _, _, _, _, _, _, x⟩ := hS0.out
    exact ⟨x.cell 0, x.cell 1⟩
  have xz : w.heap.size < w2.heap.size := by
    obtain ⟨_, _, _, _, _, _, _, x⟩ := hS0.out
    exact x.lt
  go_wp2_with fail
  go_loopw [20] (fun i wr => ∃ p : Nat, p ≤ mvs.length ∧ i = .int .i64 p ∧ BS w wr b gi Ag Am cg cm (goal, mvs) (rkG (goal.take p)) (quG goal p) (flatF 0 (mvs.take p)) []) (fun i _ => mvs.length - (intOf i).toNat)
  case atStart => exact ⟨0, by omega, rfl, hS0.out⟩
  case round =>
    clear hS0 x0 x1 xz
    obtain ⟨p, hp, rfl, hS⟩ := hrel
    by_cases hlt : p < mvs.length
    · have hlt' : (p : Int) < mvs.length := by omega
      obtain ⟨b2, off2, A', c', rfl, hb2, hc, h1, h2, h3⟩ := H.out.mvs.list hlt
      have hgl : p < goal.length := by have := HN.out; omega
      obtain ⟨b3, off3, rfl, hb3, hcg⟩ := H.out.goal.bool hgl
      simp only at hc hcg
      obtain ⟨vR, vO, vL, vQ, vI, S, hB, hX⟩ := hS
      replace hc := (bcell hB b2 _ hb2).trans hc
      have hcg0 := hid hcg
      replace hcg := (bcell hB b3 _ hb3).trans hcg
      have hz2 : b2 < wr.heap.size := by have := hB.size; omega
      have hz3 : b3 < wr.heap.size := by have := hB.size; omega
      have S1 := hid (S.below (show Below wr.heap.size wr (wr.alloc (Obj.cells #[.int .i64 (-1)] 3)) by (repeat (first | exact Below.refl _ _ | assumption | refine below_drewN ?_ _ | refine Below.drew ?_ | refine Below.alloc ?_ (by (try simp); (try omega)) _ | refine Below.setCell ?_ (by (try simp); (try omega)) _))))
      have hRl := hid (show (rkG (goal.take p)).length = p by simp; omega)
      have hB1 := hid (hB.trans ((show Below wr.heap.size wr (wr.alloc (Obj.cells #[.int .i64 (-1)] 3)) by (repeat (first | exact Below.refl _ _ | assumption | refine below_drewN ?_ _ | refine Below.drew ?_ | refine Below.alloc ?_ (by (try simp); (try omega)) _ | refine Below.setCell ?_ (by (try simp); (try omega)) _))).mono hB.size))
      have X1 := hid (hX.alloc (Obj.cells #[.int .i64 (-1)] 3))
      have hnw := hid ((Blk.new wr 3 #[.int .i64 (-1)]).cell 0)
      have q2 := S.sb.cell 2
      have qz := S.sb.lt
      simp at q2
      have hl5 := hid (show (rkG (goal.take p)).length ≤ 10000000 by have := hRl.out; omega)
      clear S hB hX
      go_upto_region 6 with (at_builtin; refine wp_appJ _ rfl (.tmp 29) (.tmp 30) rfl w.heap.size vR _ p hRl.out rfl S1.out.r.1 wr.heap.size 1 (-1) rfl hnw.out hl5.out hB1.out.size ?_; intro g1 c1 w3 ho hgr hat; obtain ⟨s3, i3, T3⟩ := S1.out.push 0 (by simp) hgr; have S4 := hid (S1.out.appR hgr ho hat); have T4 := hid (T3.trans (Tch.of_set (j := 2) s3 S1.out.lo.1 (.inr (.inl rfl)) (.slice (some ⟨g1, 0, none⟩) (p + 1) c1))); have r2 := s3.cell 2; have rf := s3.frozen 2; have rz := s3.lt; simp at r2; clear ho hgr hat s3 i3 T3)
      have B4 := hid (T4.out.below hB1.out (Nat.le_refl _))
      have X4 := hid (T4.out.blk X1.out (by decide) (by decide) (by decide))
      generalize w3.setCell ⟨b, 2, none⟩ (.slice (some ⟨g1, 0, none⟩) (p + 1) c1) = w4 at *
      clear r2 rf rz q2 qz hnw S1 X1 hB1 T4 hc hz2
      have hcg4 := (bcell B4.out b3 _ hb3).trans hcg0.out
      have hz34 : b3 < w4.heap.size := by have := B4.out.size; omega
      have HM := hid (hg.m _ (List.getElem_mem hlt))
      have HL := hid (hg.l _ (List.getElem_mem hlt))
      have HFT := hid (flatF_take mvs p hlt)
      simp only at HM HL
      generalize mvs[p] = l at *
      have x0 := X4.out.cell 0; have xz := X4.out.lt
      simp at x0
      have HRT := hid (rkG_take goal p hgl)
      have hgd : goal.getD p false = goal[p] := by simp [List.getD, hgl]
      clear hcg hz3
      generalize hgp : goal[p] = gp at hcg4 HRT hgd
      clear hgp
      go_upto_if 38 with fail
      go_cut [] (fun wx => BS w wx b gi (some ⟨b3, off3, none⟩) (some ⟨b2, off2, none⟩) cg cm (goal, mvs) (rkG (goal.take (p + 1))) (quG goal (p + 1)) (flatF 0 (mvs.take p)) [])
      case first =>
        cases gp with
        | true =>
          as_aux_lemma =>
            have HQ := hid (quG_yes goal p hgd)
            simp only [if_true] at HRT
            have q2 := S4.out.sb.cell 2; have q6 := S4.out.sb.cell 6; have qz := S4.out.sb.lt
            simp at q2 q6
            have hp1 : (p : Int) < (p : Int) + 1 := by omega
            have hc2 := S4.out.r.1.at_ (k := p) (by have := hRl.out; simp; omega)
            have hf2 : w4.frozen? ⟨g1, p, none⟩ = false := S4.out.r.1.fz p
            have hg1z : g1 < w4.heap.size := (S4.out.r.1.lt g1 rfl).2
            have S5 := hid (S4.out.setR (k := p) (by have := hRl.out; simp; omega) 0)
            have hset : (rkG (goal.take p) ++ [-1]).set p 0 = rkG (goal.take (p + 1)) := by
              rw [HRT.out, List.set_append_right _ _ (by have := hRl.out; omega)]
              have e : p - (rkG (goal.take p)).length = 0 := by have := hRl.out; omega
              rw [e]; rfl
            rw [hset] at S5
            have T5 := hid (Tch.of_grown (base := w.heap.size) (gr_set w4 g1 p (.int .i64 0)) (fun g e => by injection e with e; subst e; exact S4.out.r.1.tch))
            have B5 := hid (T5.out.below B4.out (Nat.le_refl _))
            have X5 := hid (T5.out.blk X4.out (by decide) (by decide) (by decide))
            clear hset S4 B4 X4 hgd
            go_upto_region 8 with fail
            generalize w4.setCell ⟨g1, p, none⟩ (.int .i64 0) = w5 at *
            clear q2 q6 qz hc2 hf2 hg1z T5 hp1 hcg4 hz34
            have S6 := hid (S5.out.below (show Below w5.heap.size w5 (w5.alloc (Obj.cells #[.int .i64 (p : Int)] 3)) by (repeat (first | exact Below.refl _ _ | assumption | refine below_drewN ?_ _ | refine Below.drew ?_ | refine Below.alloc ?_ (by (try simp); (try omega)) _ | refine Below.setCell ?_ (by (try simp); (try omega)) _))))
            have B6 := hid (B5.out.trans ((show Below w5.heap.size w5 (w5.alloc (Obj.cells #[.int .i64 (p : Int)] 3)) by (repeat (first | exact Below.refl _ _ | assumption | refine below_drewN ?_ _ | refine Below.drew ?_ | refine Below.alloc ?_ (by (try simp); (try omega)) _ | refine Below.setCell ?_ (by (try simp); (try omega)) _))).mono B5.out.size))
            have X6 := hid (X5.out.alloc (Obj.cells #[.int .i64 (p : Int)] 3))
            have hnw := hid ((Blk.new w5 3 #[.int .i64 (p : Int)]).cell 0)
            obtain ⟨n6, hn6⟩ : ∃ n6, (quG goal p).length = n6 := ⟨_, rfl⟩
            have hln6 := hid hn6
            have hl6 := hid (show (quG goal p).length ≤ 10000000 from by
              have : (quG goal p).length ≤ p := by simp only [quG, List.length_map]; exact Nat.le_trans (List.length_filter_le _ _) (by simp)
              omega)
            have q6 := S5.out.sb.cell 6; have qz := S5.out.sb.lt
            simp at q6
            clear hn6 S5 B5 X5
            go_upto_region 9 with (at_builtin; refine wp_appJ _ rfl (.tmp 49) (.tmp 51) rfl w.heap.size vQ _ n6 hln6.out rfl S6.out.r.2.2.2.1 w5.heap.size 1 (p : Int) rfl hnw.out hl6.out B6.out.size ?_; intro g6 c6 w6 ho hgr hat; obtain ⟨s3, i3, T3⟩ := S6.out.push 3 (by simp) hgr; have S7 := hid (S6.out.appQ hgr ho hat); have T7 := hid (T3.trans (Tch.of_set (j := 6) s3 S6.out.lo.1 (.inr (.inl rfl)) (.slice (some ⟨g6, 0, none⟩) (n6 + 1) c6))); have r2 := s3.cell 6; have rf := s3.frozen 6; have rz := s3.lt; simp at r2; clear ho hgr hat s3 i3 T3)
            have B7 := hid (T7.out.below B6.out (Nat.le_refl _))
            have X7 := hid (T7.out.blk X6.out (by decide) (by decide) (by decide))
            rw [← HQ.out] at S7
            generalize w6.setCell ⟨b, 6, none⟩ (.slice (some ⟨g6, 0, none⟩) (n6 + 1) c6) = w7 at *
            go_meet
            exact ⟨_, _, _, _, _, S7.out, B7.out, X7.out⟩
        | false =>
          simp only [Bool.false_eq_true, if_false] at HRT
          have HQ := hid (quG_no goal p hgd)
          as_aux_lemma =>
            go_wp2_with fail
            go_meet
            exact ⟨_, _, _, _, _, by rw [HRT.out, HQ.out]; exact S4.out, B4.out, X4.out⟩
      case rest =>
        have S5' := hid hcut
        clear hcut S4 B4 X4 hcg4 HRT hgd x0 xz hz34 hcg0
        have hlb : l.length ≤ 1000 := HL.out
        go_wp2_with fail
        go_loopw [57] (fun i wr => ∃ k : Nat, k ≤ l.length ∧ i = .int .i64 k ∧ BS w wr b gi (some ⟨b3, off3, none⟩) (some ⟨b2, off2, none⟩) cg cm (goal, mvs) (rkG (goal.take (p + 1))) (quG goal (p + 1)) (flatF 0 (mvs.take p) ++ (l.take k).map (mvN p)) []) (fun i _ => l.length - (intOf i).toNat)
        case atStart => exact ⟨0, by omega, rfl, by simpa using S5'.out⟩
        case round =>
          clear S5'
          obtain ⟨k, hk, rfl, hS⟩ := hrel
          by_cases hlk : k < l.length
          · have hlk' : (k : Int) < l.length := by omega
            obtain ⟨b4, off4, A4, c4, rfl, hb4, m0, m1, hm2, hm3, hs4, _⟩ := h3.mv hlk
            obtain ⟨hml, hnd, hne, h9⟩ := HM.out l[k] (List.getElem_mem hlk)
            have hfm := hid (show ∀ fm : List (Nat × List Nat), fm = flatF 0 (mvs.take p) ++ (l.take k).map (mvN p) → fm ++ [mvN p l[k]] = flatF 0 (mvs.take p) ++ (l.take (k + 1)).map (mvN p) from fun fm e => by
              rw [e, List.take_add_one, List.getElem?_eq_getElem hlk, List.map_append, List.append_assoc]; rfl)
            have HFL := hid (show (flatF 0 (mvs.take p) ++ (l.take k).map (mvN p)).length ≤ 2000000 from by
              have h5 := flat_len (mvs.take p) 0 (fun x hx => hg.l x (List.mem_of_mem_take hx))
              have h6 := HL.out
              simp only [List.length_append, List.length_map, List.length_take] at *
              omega)
            generalize flatF 0 (mvs.take p) ++ (l.take k).map (mvN p) = fm at *
            replace hfm := hid (hfm.out _ rfl)
            generalize l[k] = m at *
            obtain ⟨act, tos⟩ := m
            simp only at m0 m1 hm2 hm3 hs4 hml hnd hne h9
            have hBw : Below w.heap.size w wr := by obtain ⟨_, _, _, _, _, _, hB, _⟩ := hS; exact hB
            replace m0 := (bcell hBw b4 _ hb4).trans m0
            replace m1 := (bcell hBw b4 _ hb4).trans m1
            have hz4 : b4 < wr.heap.size := by have := hBw.size; omega
            have S6 := hid (show BS w (wr.alloc (Obj.cells #[.int .i64 act, .slice A4 tos.length c4] 49)) b gi (some ⟨b3, off3, none⟩) (some ⟨b2, off2, none⟩) cg cm (goal, mvs) (rkG (goal.take (p + 1))) (quG goal (p + 1)) fm [] from by
              obtain ⟨_, _, _, _, _, S, hB, hX⟩ := hS
              exact ⟨_, _, _, _, _, S.below (by (repeat (first | exact Below.refl _ _ | assumption | refine below_drewN ?_ _ | refine Below.drew ?_ | refine Below.alloc ?_ (by (try simp); (try omega)) _ | refine Below.setCell ?_ (by (try simp); (try omega)) _))), hB.trans ((show Below wr.heap.size wr (wr.alloc (Obj.cells #[.int .i64 act, .slice A4 tos.length c4] 49)) by (repeat (first | exact Below.refl _ _ | assumption | refine below_drewN ?_ _ | refine Below.drew ?_ | refine Below.alloc ?_ (by (try simp); (try omega)) _ | refine Below.setCell ?_ (by (try simp); (try omega)) _))).mono hB.size), hX.alloc _⟩)
            have Y6 := hid (Blk.new wr 49 #[.int .i64 act, .slice A4 tos.length c4])
            have HND := hid hnd
            have H9 := hid h9
            have HML := hid hml
            have hmb : tos.length ≤ 1000 := hml
            have HS4 := hid hs4
            clear hS hBw hnd h9 hml hne hm2 hm3 hs4
            go_upto_region 12 with fail
            generalize hw6 : wr.alloc (Obj.cells #[.int .i64 act, .slice A4 tos.length c4] 49) = w6 at S6 Y6 ⊢
            clear hw6
            generalize wr.heap.size = g7 at *
            have y1 := Y6.out.cell 1; have yz := Y6.out.lt
            simp at y1
            go_wp2_with fail
            go_loopw [64] (fun i wr => ∃ j : Nat, j ≤ tos.length ∧ i = .int .i64 j ∧ BS w wr b gi (some ⟨b3, off3, none⟩) (some ⟨b2, off2, none⟩) cg cm (goal, mvs) (rkG (goal.take (p + 1))) (quG goal (p + 1)) fm ((tos.take j).map Int.toNat) ∧ Blk wr g7 49 #[.int .i64 act, .slice A4 tos.length c4]) (fun i _ => tos.length - (intOf i).toNat)
            case atStart => exact ⟨0, by omega, rfl, by simpa using S6.out, Y6.out⟩
            case round =>
              clear S6 Y6 y1 yz m0 m1 hz4
              obtain ⟨j, hj, rfl, hS9, hY9⟩ := hrel
              have hB9 : Below w.heap.size w wr := by obtain ⟨_, _, _, _, _, _, hB, _⟩ := hS9; exact hB
              by_cases hlj : j < tos.length
              · have hlj' : (j : Int) < tos.length := by omega
                obtain ⟨b8, off8, rfl, hb8, hct, _⟩ := HS4.out.int hlj
                replace hct := (bcell hB9 b8 _ hb8).trans hct
                have hz8 : b8 < wr.heap.size := by have := hB9.size; omega
                clear hB9
                have hto := H9.out _ (List.getElem_mem hlj)
                obtain ⟨t, ht⟩ : ∃ t : Nat, tos[j] = t := ⟨tos[j].toNat, by omega⟩
                have hpre := hid (show ∀ d, (tos.take j).map Int.toNat = d → d ++ [t] = (tos.take (j + 1)).map Int.toNat from fun d hd => by
                  rw [List.take_add_one, List.getElem?_eq_getElem hlj, List.map_append, ht, hd]; simp)
                have htn : t ∉ (tos.take j).map Int.toNat := by
                  intro hx
                  obtain ⟨y, hy, e⟩ := List.mem_map.1 hx
                  obtain ⟨i, hi, rfl⟩ := List.getElem_of_mem hy
                  simp only [List.length_take] at hi
                  rw [List.getElem_take] at e
                  have h5 := HND.out
                  have := List.pairwise_iff_getElem.1 h5 i j (by omega) hlj (by omega)
                  have h6 := (H9.out _ (List.getElem_mem (show i < tos.length by omega))).1
                  omega
                have HTN := hid htn
                rw [ht] at hct hto
                have hts : t < goal.length := by omega
                have hts' : (t : Int) < goal.length := by omega
                clear htn ht
                obtain ⟨vR, vO, vL, vQ, vI, S, hB9, hX9⟩ := hS9
                have hvI : vI.length = goal.length := by have := S.r.2.2.2.2.1; rw [this, ilist_len]
                have hvt : t < vI.length := by omega
                have hvt' : (t : Int) < vI.length := by omega
                have HVI := hid hvI
                obtain ⟨AO, cO, rfl, _⟩ := S.r.2.1.form
                have it := S.ib.cell t
                have q3 := S.sb.cell 3; have q5 := S.sb.cell 5; have qz := S.sb.lt; have iz := S.ib.lt
                simp [hvt] at it q3 q5
                have hbg := S.ne
                have S8 := hid (S.below (show Below wr.heap.size wr ((wr.alloc (Obj.cells #[.int .i64 (fm.length : Int)] 3)).drew) by (repeat (first | exact Below.refl _ _ | assumption | refine below_drewN ?_ _ | refine Below.drew ?_ | refine Below.alloc ?_ (by (try simp); (try omega)) _ | refine Below.setCell ?_ (by (try simp); (try omega)) _))))
                have own8 := hid (S8.out.r.2.2.2.2.2 t hvt (by rw [ilist_len]; exact hts))
                have hnw8 := hid (((Blk.new wr 3 #[.int .i64 (fm.length : Int)]).drew).cell 0)
                have hlt8 := hid (show ((ilist fm ((tos.take j).map Int.toNat) goal.length)[t]'(by rw [ilist_len]; exact hts)).length ≤ 10000000 from by
                  rw [ilist_get]; simp; have := into_len fm 0 t; have := HFL.out; split <;> simp <;> omega)
                obtain ⟨n8, hn8⟩ : ∃ n8, ((ilist fm ((tos.take j).map Int.toNat) goal.length)[t]'(by rw [ilist_len]; exact hts)).length = n8 := ⟨_, rfl⟩
                have hln8 := hid hn8
                clear hn8
                have hsz8 := hid (show w.heap.size ≤ ((wr.alloc (Obj.cells #[.int .i64 (fm.length : Int)] 3)).drew).heap.size from by have := hB9.size; simp; omega)
                have HB8 := hid (hB9.trans ((show Below wr.heap.size wr ((wr.alloc (Obj.cells #[.int .i64 (fm.length : Int)] 3)).drew) by (repeat (first | exact Below.refl _ _ | assumption | refine below_drewN ?_ _ | refine Below.drew ?_ | refine Below.alloc ?_ (by (try simp); (try omega)) _ | refine Below.setCell ?_ (by (try simp); (try omega)) _))).mono hB9.size))
                have HX8 := hid ((hX9.alloc (Obj.cells #[.int .i64 (fm.length : Int)] 3)).drew)
                have HY8 := hid ((hY9.alloc (Obj.cells #[.int .i64 (fm.length : Int)] 3)).drew)
                have hfl9 : fm.length ≤ 2000000 := HFL.out
                clear S hB9 hX9 hY9 hvI
                go_upto_region 15 with fail
                refine wpIn_wide.1 (wpIn_region_S (n := 0) (fun w' => w'.cell? ⟨b, 5, none⟩ = some (.slice (some ⟨gi, 0, none⟩) vI.length vI.length) ∧ w'.cell? ⟨gi, t, none⟩ = some vI[t] ∧ w'.cell? ⟨b, 3, none⟩ = some (.slice AO fm.length cO)) [20] (by kernel_rfl) ⟨q5, it, q3⟩ (fun hHeld => ?_))
                refine wpAnyS_take 0 (v := ?_) (fun _ => trivial) (by simp only [List.getElem?_toArray, List.getElem?_cons_succ, List.getElem?_cons_zero]; rfl) (by kernel_rfl) (fun _ _ _ _ _ h => h) ⟨rfl, (by intro c h; cases h), ?_⟩ hHeld ?_
                rotate_left
                focus (intro wS hSw; (try replace hSw := HSF.out wS hSw); (try dsimp only at hSw); go_simp; (try with_reducible rfl))
                (try simp only [Act.put, List.setIfInBounds_toArray, List.set_cons_zero, List.set_cons_succ])
                refine wpAnyS_take 1 (v := ?_) (fun _ => trivial) (by simp only [List.getElem?_toArray, List.getElem?_cons_succ, List.getElem?_cons_zero]; rfl) (by kernel_rfl) (fun _ _ _ _ _ h => h) ⟨rfl, (by intro c h; cases h), ?_⟩ hHeld ?_
                rotate_left
                focus (intro wS hSw; (try replace hSw := HSF.out wS hSw); (try dsimp only at hSw); go_simp; (try with_reducible rfl))
                (try simp only [Act.put, List.setIfInBounds_toArray, List.set_cons_zero, List.set_cons_succ])
                refine wpAnyS_take 2 (v := ?_) (fun _ => trivial) (by simp only [List.getElem?_toArray, List.getElem?_cons_succ, List.getElem?_cons_zero]; rfl) (by kernel_rfl) (fun _ _ _ _ _ h => h) ⟨rfl, (by intro c h; cases h), ?_⟩ hHeld ?_
                rotate_left
                focus (intro wS hSw; (try replace hSw := HSF.out wS hSw); (try dsimp only at hSw); go_simp; (try with_reducible rfl))
                (try simp only [Act.put, List.setIfInBounds_toArray, List.set_cons_zero, List.set_cons_succ])
                refine wpAnyS_take 3 (v := ?_) (fun _ => trivial) (by simp only [List.getElem?_toArray, List.getElem?_cons_succ, List.getElem?_cons_zero]; rfl) (by kernel_rfl) (fun _ _ _ _ _ h => h) ⟨rfl, (by intro c h; cases h), ?_⟩ hHeld ?_
                rotate_left
                focus (intro wS hSw; (try replace hSw := HSF.out wS hSw); (try dsimp only at hSw); go_simp; (try with_reducible rfl))
                (try simp only [Act.put, List.setIfInBounds_toArray, List.set_cons_zero, List.set_cons_succ])
                refine wpAnyS_take 4 (v := ?_) (fun _ => trivial) (by simp only [List.getElem?_toArray, List.getElem?_cons_succ, List.getElem?_cons_zero]; rfl) (by kernel_rfl) (fun _ _ _ _ _ h => h) ⟨rfl, (by intro c h; cases h), ?_⟩ hHeld ?_
                rotate_left
                focus (intro wS hSw; (try replace hSw := HSF.out wS hSw); (try dsimp only at hSw); go_simp; (try with_reducible rfl))
                (try simp only [Act.put, List.setIfInBounds_toArray, List.set_cons_zero, List.set_cons_succ])
                refine wpAnyS_take 5 (v := ?_) (fun _ => trivial) (by simp only [List.getElem?_toArray, List.getElem?_cons_succ, List.getElem?_cons_zero]; rfl) (by kernel_rfl) (fun _ _ _ _ _ h => h) ⟨rfl, (by intro c h; cases h), ?_⟩ hHeld ?_
                rotate_left
                focus (intro wS hSw; (try replace hSw := HSF.out wS hSw); (try dsimp only at hSw); go_simp; (try with_reducible rfl))
                (try simp only [Act.put, List.setIfInBounds_toArray, List.set_cons_zero, List.set_cons_succ])
                refine wpAnyS_take 6 (v := ?_) (fun _ => trivial) (by simp only [List.getElem?_toArray, List.getElem?_cons_succ, List.getElem?_cons_zero]; rfl) (by kernel_rfl) (fun _ _ _ _ _ h => h) ⟨rfl, (by intro c h; cases h), ?_⟩ hHeld ?_
                rotate_left
                focus (intro wS hSw; (try replace hSw := HSF.out wS hSw); (try dsimp only at hSw); go_simp; (try with_reducible rfl))
                (try simp only [Act.put, List.setIfInBounds_toArray, List.set_cons_zero, List.set_cons_succ])
                refine wpAnyS_take 7 (v := ?_) (fun _ => trivial) (by simp only [List.getElem?_toArray, List.getElem?_cons_succ, List.getElem?_cons_zero]; rfl) (by kernel_rfl) (fun _ _ _ _ _ h => h) ⟨rfl, (by intro c h; cases h), ?_⟩ hHeld ?_
                rotate_left
                focus (intro wS hSw; (try replace hSw := HSF.out wS hSw); (try dsimp only at hSw); go_simp; (try with_reducible rfl))
                (try simp only [Act.put, List.setIfInBounds_toArray, List.set_cons_zero, List.set_cons_succ])
                refine wpAnyS_take 8 (v := ?_) (fun _ => trivial) (by simp only [List.getElem?_toArray, List.getElem?_cons_succ, List.getElem?_cons_zero]; rfl) (by kernel_rfl) (fun _ _ _ _ _ h => h) ⟨rfl, (by intro c h; cases h), ?_⟩ hHeld ?_
                rotate_left
                focus (intro wS hSw; (try replace hSw := HSF.out wS hSw); (try dsimp only at hSw); go_simp; (try with_reducible rfl))
                (try simp only [Act.put, List.setIfInBounds_toArray, List.set_cons_zero, List.set_cons_succ])
                refine wpAnyS_take 9 (v := ?_) (fun _ => trivial) (by simp only [List.getElem?_toArray, List.getElem?_cons_succ, List.getElem?_cons_zero]; rfl) (by kernel_rfl) (fun _ _ _ _ _ h => h) ⟨rfl, (by intro c h; cases h), ?_⟩ hHeld ?_
                rotate_left
                focus (intro wS hSw; (try replace hSw := HSF.out wS hSw); (try dsimp only at hSw); go_simp; (try with_reducible rfl))
                (try simp only [Act.put, List.setIfInBounds_toArray, List.set_cons_zero, List.set_cons_succ])
                refine wpAnyS_take 10 (v := ?_) (fun _ => trivial) (by simp only [List.getElem?_toArray, List.getElem?_cons_succ, List.getElem?_cons_zero]; rfl) (by kernel_rfl) (fun _ _ _ _ _ h => h) ⟨rfl, (by intro c h; cases h), ?_⟩ hHeld ?_
                rotate_left
                focus (intro wS hSw; (try replace hSw := HSF.out wS hSw); (try dsimp only at hSw); go_simp; (try with_reducible rfl))
                (try simp only [Act.put, List.setIfInBounds_toArray, List.set_cons_zero, List.set_cons_succ])
                refine wpAnyS_take 11 (v := ?_) (fun _ => trivial) (by simp only [List.getElem?_toArray, List.getElem?_cons_succ, List.getElem?_cons_zero]; rfl) (by kernel_rfl) (fun _ _ _ _ _ h => h) ⟨rfl, (by intro c h; cases h), ?_⟩ hHeld ?_
                rotate_left
                focus (intro wS hSw; (try replace hSw := HSF.out wS hSw); (try dsimp only at hSw); go_simp; (try with_reducible rfl))
                (try simp only [Act.put, List.setIfInBounds_toArray, List.set_cons_zero, List.set_cons_succ])
                refine wpAnyS_take 12 (v := ?_) (fun _ => trivial) (by simp only [List.getElem?_toArray, List.getElem?_cons_succ, List.getElem?_cons_zero]; rfl) (by kernel_rfl) (fun _ _ _ _ _ h => h) ⟨rfl, (by intro c h; cases h), ?_⟩ hHeld ?_
                rotate_left
                focus (intro wS hSw; (try replace hSw := HSF.out wS hSw); (try dsimp only at hSw); go_simp; (try with_reducible rfl))
                (try simp only [Act.put, List.setIfInBounds_toArray, List.set_cons_zero, List.set_cons_succ])
                refine wpAnyS_take 13 (v := ?_) (fun _ => trivial) (by simp only [List.getElem?_toArray, List.getElem?_cons_succ, List.getElem?_cons_zero]; rfl) (by kernel_rfl) (fun _ _ _ _ _ h => h) ⟨rfl, (by intro c h; cases h), ?_⟩ hHeld ?_
                rotate_left
                focus (intro wS hSw; (try replace hSw := HSF.out wS hSw); (try dsimp only at hSw); go_simp; (try with_reducible rfl))
                (try simp only [Act.put, List.setIfInBounds_toArray, List.set_cons_zero, List.set_cons_succ])
                refine wpAnyS_take 14 (v := ?_) (fun _ => trivial) (by simp only [List.getElem?_toArray, List.getElem?_cons_succ, List.getElem?_cons_zero]; rfl) (by kernel_rfl) (fun _ _ _ _ _ h => h) ⟨rfl, (by intro c h; cases h), ?_⟩ hHeld ?_
                rotate_left
                focus (intro wS hSw; (try replace hSw := HSF.out wS hSw); (try dsimp only at hSw); go_simp; (try with_reducible rfl))
                (try simp only [Act.put, List.setIfInBounds_toArray, List.set_cons_zero, List.set_cons_succ])
                refine wpAnyS_take 15 (v := ?_) (fun _ => trivial) (by simp only [List.getElem?_toArray, List.getElem?_cons_succ, List.getElem?_cons_zero]; rfl) (by kernel_rfl) (fun _ _ _ _ _ h => h) ⟨rfl, (by intro c h; cases h), ?_⟩ hHeld ?_
                rotate_left
                focus (intro wS hSw; (try replace hSw := HSF.out wS hSw); (try dsimp only at hSw); go_simp; (try with_reducible rfl))
                (try simp only [Act.put, List.setIfInBounds_toArray, List.set_cons_zero, List.set_cons_succ])
                refine wpAnyS_take 16 (v := ?_) (fun _ => trivial) (by simp only [List.getElem?_toArray, List.getElem?_cons_succ, List.getElem?_cons_zero]; rfl) (by kernel_rfl) (fun _ _ _ _ _ h => h) ⟨rfl, (by intro c h; cases h), ?_⟩ hHeld ?_
                rotate_left
                focus (intro wS hSw; (try replace hSw := HSF.out wS hSw); (try dsimp only at hSw); go_simp; (try with_reducible rfl))
                (try simp only [Act.put, List.setIfInBounds_toArray, List.set_cons_zero, List.set_cons_succ])
                refine wpAnyS_ready [17] (by kernel_rfl) (by simp) (AllReadyS.cons (by simp only [List.getElem?_toArray, List.getElem?_cons_succ, List.getElem?_cons_zero]; rfl) rfl (fun K hK => ?_) AllReadyS.nil)
                go_simp
                have r3 := S8.out.sb.cell 3; have r5 := S8.out.sb.cell 5; have rt := S8.out.ib.cell t
                simp [hvt] at r3 r5 rt
                refine hK.out _ _ (⟨r5, rt, r3⟩) ?_
                clear hK K r3 r5 rt
                refine wpAnyS_ready [18] (by kernel_rfl) (by simp) (AllReadyS.cons (by simp only [List.getElem?_toArray, List.getElem?_cons_succ, List.getElem?_cons_zero]; rfl) rfl (fun K hK => ?_) AllReadyS.nil)
                refine appS (fun _ => trivial) _ (.tmp 79) (.tmp 85) rfl w.heap.size vI[t] _ _ hln8.out rfl own8.out wr.heap.size 1 (fm.length : Int) rfl hnw8.out hlt8.out hsz8.out ?_
                intro g2 c2 w3 ho hgr hat
                obtain ⟨s3, i3, T3⟩ := S8.out.pushI hvt hgr
                have r3 := s3.cell 3; have r5 := s3.cell 5; have rz := s3.lt; have jt := i3.cell t; have jf := i3.frozen t; have jz := i3.lt
                simp [hvt] at r3 r5 jt
                have F9 := hid (bs_into S8.out HB8.out HX8.out HY8.out hts hvt HTN.out hgr ho hat)
                refine hK.out _ _ (⟨r5, jt, r3⟩) ?_
                clear hK K ho hgr hat s3 i3 T3 hHeld
                have hHeld := And.intro r5 (And.intro jt r3)
                refine wpAnyS_take 19 (v := ?_) (fun _ => trivial) (by simp only [List.getElem?_toArray, List.getElem?_cons_succ, List.getElem?_cons_zero]; rfl) (by kernel_rfl) (fun _ _ _ _ _ h => h) ⟨rfl, (by intro c h; cases h), ?_⟩ hHeld ?_
                rotate_left
                focus (intro wS hSw; (try replace hSw := HSF.out wS hSw); (try dsimp only at hSw); go_simp; (try with_reducible rfl))
                (try simp only [Act.put, List.setIfInBounds_toArray, List.set_cons_zero, List.set_cons_succ])
                refine wpAnyS_ready [20] (by kernel_rfl) (by simp) (AllReadyS.consL (by simp only [List.getElem?_toArray, List.getElem?_cons_succ, List.getElem?_cons_zero]; rfl) rfl (by kernel_rfl) (fun K hK => ?_) AllReadyS.nil)
                go_simp
                refine hK.out _ _ ?_
                refine wpAnyS_done (by kernel_rfl) ?_
                clear hK K hHeld r3 r5 jt jf
                go_wp2_with fail
                go_roundw
                case rel => exact ⟨j + 1, by omega, by go_num, by rw [← hpre.out _ rfl]; exact F9.out.1, F9.out.2⟩
                case measure => simp [intOf]; omega
              · obtain rfl : j = tos.length := by omega
                have S17 := hid hS9
                have Y17 := hid hY9
                rw [List.take_length] at S17
                clear hS9 hY9 hB9
                go_upto_region 17 with fail
                obtain ⟨vR, vO, vL, vQ, vI, S, hB9, hX9⟩ := S17.out
                rw [ilist_end fm (p, tos.map Int.toNat) goal.length] at S
                have S0 := hid S
                obtain ⟨AO, cO, hvO, _⟩ := S.r.2.1.form
                obtain ⟨AL, cL, hvL, _⟩ := S.r.2.2.1.form
                simp only [List.length_map] at hvO hvL
                subst hvO hvL
                have hnO := hid (show (ownL fm).length = fm.length by simp)
                have hnL := hid (show (lenL fm).length = fm.length by simp)
                have hlO := hid (show (ownL fm).length ≤ 10000000 by have := HFL.out; simp; omega)
                have hlL := hid (show (lenL fm).length ≤ 10000000 by have := HFL.out; simp; omega)
                have q3 := S.sb.cell 3; have q4 := S.sb.cell 4; have qz := S.sb.lt
                have y1 := Y17.out.cell 1; have yz := Y17.out.lt
                simp at q3 q4 y1
                have hsw := hB9.size
                have HB9 := hid hB9
                have HX9 := hid hX9
                clear S hB9 hX9 S17
                have BA := hid (show Below wr.heap.size wr ((wr.alloc (Obj.cells #[.int .i64 (p : Int)] 3)).drew) by (repeat (first | exact Below.refl _ _ | assumption | refine below_drewN ?_ _ | refine Below.drew ?_ | refine Below.alloc ?_ (by (try simp); (try omega)) _ | refine Below.setCell ?_ (by (try simp); (try omega)) _)))
                have oA := hid (S0.out.r.2.1.below BA.out)
                have BAB := hid (show Below wr.heap.size wr (((wr.alloc (Obj.cells #[.int .i64 (p : Int)] 3)).alloc (Obj.cells #[.int .i64 (tos.length : Int)] 3)).drew) by (repeat (first | exact Below.refl _ _ | assumption | refine below_drewN ?_ _ | refine Below.drew ?_ | refine Below.alloc ?_ (by (try simp); (try omega)) _ | refine Below.setCell ?_ (by (try simp); (try omega)) _)))
                have oAB := hid (S0.out.r.2.1.below BAB.out)
                have BBA := hid (show Below wr.heap.size wr (((wr.alloc (Obj.cells #[.int .i64 (tos.length : Int)] 3)).alloc (Obj.cells #[.int .i64 (p : Int)] 3)).drew) by (repeat (first | exact Below.refl _ _ | assumption | refine below_drewN ?_ _ | refine Below.drew ?_ | refine Below.alloc ?_ (by (try simp); (try omega)) _ | refine Below.setCell ?_ (by (try simp); (try omega)) _)))
                have oBA := hid (S0.out.r.2.1.below BBA.out)
                have cAA := hid ((((Blk.new wr 3 #[.int .i64 (p : Int)])).drew).cell 0)
                have cAAB := hid (((((Blk.new wr 3 #[.int .i64 (p : Int)])).alloc (Obj.cells #[.int .i64 (tos.length : Int)] 3)).drew).cell 0)
                have cBBA := hid (((((Blk.new wr 3 #[.int .i64 (tos.length : Int)])).alloc (Obj.cells #[.int .i64 (p : Int)] 3)).drew).cell 0)
                have cBAB := hid ((((Blk.new_at (w := wr.alloc (Obj.cells #[.int .i64 (p : Int)] 3)) (t := 3) (cs := #[.int .i64 (tos.length : Int)]) (g := wr.heap.size + 1) (by simp))).drew).cell 0)
                have cABA := hid ((((Blk.new_at (w := wr.alloc (Obj.cells #[.int .i64 (tos.length : Int)] 3)) (t := 3) (cs := #[.int .i64 (p : Int)]) (g := wr.heap.size + 1) (by simp))).drew).cell 0)
                have zAB := hid (show wr.heap.size + 1 < (((wr.alloc (Obj.cells #[.int .i64 (p : Int)] 3)).alloc (Obj.cells #[.int .i64 (tos.length : Int)] 3)).drew).heap.size by simp)
                have zAB0 := hid (show wr.heap.size < (((wr.alloc (Obj.cells #[.int .i64 (p : Int)] 3)).alloc (Obj.cells #[.int .i64 (tos.length : Int)] 3)).drew).heap.size by simp; omega)
                have zBA := hid (show wr.heap.size + 1 < (((wr.alloc (Obj.cells #[.int .i64 (tos.length : Int)] 3)).alloc (Obj.cells #[.int .i64 (p : Int)] 3)).drew).heap.size by simp)
                have zBA0 := hid (show wr.heap.size < (((wr.alloc (Obj.cells #[.int .i64 (tos.length : Int)] 3)).alloc (Obj.cells #[.int .i64 (p : Int)] 3)).drew).heap.size by simp; omega)
                clear HND H9 HML HS4 hmb H HN hgl hlt' HM HL
                refine wpIn_wide.1 (wpIn_region_S (n := 0) (fun w' => w'.cell? ⟨b, 3, none⟩ = some (.slice AO fm.length cO) ∧ w'.cell? ⟨b, 4, none⟩ = some (.slice AL fm.length cL) ∧ w'.cell? ⟨g7, 1, none⟩ = some (.slice A4 tos.length c4)) [20, 23] (by kernel_rfl) ⟨q3, q4, y1⟩ (fun hHeld => ?_))
                refine wpAnyS_pure 0 (v := ?_) (fun _ => trivial) (by simp only [List.getElem?_toArray, List.getElem?_cons_succ, List.getElem?_cons_zero]; rfl) (by kernel_rfl) (fun _ _ _ _ _ h => h) ⟨rfl, (by intro c h; cases h), ?_⟩ hHeld ?_
                rotate_left
                focus (intro wS hSw; (try replace hSw := HSF.out wS hSw); (try dsimp only at hSw); go_simp; (try with_reducible rfl))
                (try simp only [Act.put, List.setIfInBounds_toArray, List.set_cons_zero, List.set_cons_succ])
                refine wpAnyS_pure 1 (v := ?_) (fun _ => trivial) (by simp only [List.getElem?_toArray, List.getElem?_cons_succ, List.getElem?_cons_zero]; rfl) (by kernel_rfl) (fun _ _ _ _ _ h => h) ⟨rfl, (by intro c h; cases h), ?_⟩ hHeld ?_
                rotate_left
                focus (intro wS hSw; (try replace hSw := HSF.out wS hSw); (try dsimp only at hSw); go_simp; (try with_reducible rfl))
                (try simp only [Act.put, List.setIfInBounds_toArray, List.set_cons_zero, List.set_cons_succ])
                refine wpAnyS_pure 2 (v := ?_) (fun _ => trivial) (by simp only [List.getElem?_toArray, List.getElem?_cons_succ, List.getElem?_cons_zero]; rfl) (by kernel_rfl) (fun _ _ _ _ _ h => h) ⟨rfl, (by intro c h; cases h), ?_⟩ hHeld ?_
                rotate_left
                focus (intro wS hSw; (try replace hSw := HSF.out wS hSw); (try dsimp only at hSw); go_simp; (try with_reducible rfl))
                (try simp only [Act.put, List.setIfInBounds_toArray, List.set_cons_zero, List.set_cons_succ])
                refine wpAnyS_pure 3 (v := ?_) (fun _ => trivial) (by simp only [List.getElem?_toArray, List.getElem?_cons_succ, List.getElem?_cons_zero]; rfl) (by kernel_rfl) (fun _ _ _ _ _ h => h) ⟨rfl, (by intro c h; cases h), ?_⟩ hHeld ?_
                rotate_left
                focus (intro wS hSw; (try replace hSw := HSF.out wS hSw); (try dsimp only at hSw); go_simp; (try with_reducible rfl))
                (try simp only [Act.put, List.setIfInBounds_toArray, List.set_cons_zero, List.set_cons_succ])
                refine wpAnyS_pure 4 (v := ?_) (fun _ => trivial) (by simp only [List.getElem?_toArray, List.getElem?_cons_succ, List.getElem?_cons_zero]; rfl) (by kernel_rfl) (fun _ _ _ _ _ h => h) ⟨rfl, (by intro c h; cases h), ?_⟩ hHeld ?_
                rotate_left
                focus (intro wS hSw; (try replace hSw := HSF.out wS hSw); (try dsimp only at hSw); go_simp; (try with_reducible rfl))
                (try simp only [Act.put, List.setIfInBounds_toArray, List.set_cons_zero, List.set_cons_succ])
                refine wpAnyS_take 5 (v := ?_) (fun _ => trivial) (by simp only [List.getElem?_toArray, List.getElem?_cons_succ, List.getElem?_cons_zero]; rfl) (by kernel_rfl) (fun _ _ _ _ _ h => h) ⟨rfl, (by intro c h; cases h), ?_⟩ hHeld ?_
                rotate_left
                focus (intro wS hSw; (try replace hSw := HSF.out wS hSw); (try dsimp only at hSw); go_simp; (try with_reducible rfl))
                (try simp only [Act.put, List.setIfInBounds_toArray, List.set_cons_zero, List.set_cons_succ])
                refine wpAnyS_pure 6 (v := ?_) (fun _ => trivial) (by simp only [List.getElem?_toArray, List.getElem?_cons_succ, List.getElem?_cons_zero]; rfl) (by kernel_rfl) (fun _ _ _ _ _ h => h) ⟨rfl, (by intro c h; cases h), ?_⟩ hHeld ?_
                rotate_left
                focus (intro wS hSw; (try replace hSw := HSF.out wS hSw); (try dsimp only at hSw); go_simp; (try with_reducible rfl))
                (try simp only [Act.put, List.setIfInBounds_toArray, List.set_cons_zero, List.set_cons_succ])
                refine wpAnyS_pure 9 (v := ?_) (fun _ => trivial) (by simp only [List.getElem?_toArray, List.getElem?_cons_succ, List.getElem?_cons_zero]; rfl) (by kernel_rfl) (fun _ _ _ _ _ h => h) ⟨rfl, (by intro c h; cases h), ?_⟩ hHeld ?_
                rotate_left
                focus (intro wS hSw; (try replace hSw := HSF.out wS hSw); (try dsimp only at hSw); go_simp; (try with_reducible rfl))
                (try simp only [Act.put, List.setIfInBounds_toArray, List.set_cons_zero, List.set_cons_succ])
                refine wpAnyS_pure 10 (v := ?_) (fun _ => trivial) (by simp only [List.getElem?_toArray, List.getElem?_cons_succ, List.getElem?_cons_zero]; rfl) (by kernel_rfl) (fun _ _ _ _ _ h => h) ⟨rfl, (by intro c h; cases h), ?_⟩ hHeld ?_
                rotate_left
                focus (intro wS hSw; (try replace hSw := HSF.out wS hSw); (try dsimp only at hSw); go_simp; (try with_reducible rfl))
                (try simp only [Act.put, List.setIfInBounds_toArray, List.set_cons_zero, List.set_cons_succ])
                refine wpAnyS_pure 11 (v := ?_) (fun _ => trivial) (by simp only [List.getElem?_toArray, List.getElem?_cons_succ, List.getElem?_cons_zero]; rfl) (by kernel_rfl) (fun _ _ _ _ _ h => h) ⟨rfl, (by intro c h; cases h), ?_⟩ hHeld ?_
                rotate_left
                focus (intro wS hSw; (try replace hSw := HSF.out wS hSw); (try dsimp only at hSw); go_simp; (try with_reducible rfl))
                (try simp only [Act.put, List.setIfInBounds_toArray, List.set_cons_zero, List.set_cons_succ])
                refine wpAnyS_take 12 (v := ?_) (fun _ => trivial) (by simp only [List.getElem?_toArray, List.getElem?_cons_succ, List.getElem?_cons_zero]; rfl) (by kernel_rfl) (fun _ _ _ _ _ h => h) ⟨rfl, (by intro c h; cases h), ?_⟩ hHeld ?_
                rotate_left
                focus (intro wS hSw; (try replace hSw := HSF.out wS hSw); (try dsimp only at hSw); go_simp; (try with_reducible rfl))
                (try simp only [Act.put, List.setIfInBounds_toArray, List.set_cons_zero, List.set_cons_succ])
                refine wpAnyS_pure 13 (v := ?_) (fun _ => trivial) (by simp only [List.getElem?_toArray, List.getElem?_cons_succ, List.getElem?_cons_zero]; rfl) (by kernel_rfl) (fun _ _ _ _ _ h => h) ⟨rfl, (by intro c h; cases h), ?_⟩ hHeld ?_
                rotate_left
                focus (intro wS hSw; (try replace hSw := HSF.out wS hSw); (try dsimp only at hSw); go_simp; (try with_reducible rfl))
                (try simp only [Act.put, List.setIfInBounds_toArray, List.set_cons_zero, List.set_cons_succ])
                refine wpAnyS_take 14 (v := ?_) (fun _ => trivial) (by simp only [List.getElem?_toArray, List.getElem?_cons_succ, List.getElem?_cons_zero]; rfl) (by kernel_rfl) (fun _ _ _ _ _ h => h) ⟨rfl, (by intro c h; cases h), ?_⟩ hHeld ?_
                rotate_left
                focus (intro wS hSw; (try replace hSw := HSF.out wS hSw); (try dsimp only at hSw); go_simp; (try with_reducible rfl))
                (try simp only [Act.put, List.setIfInBounds_toArray, List.set_cons_zero, List.set_cons_succ])
                refine wpAnyS_pure 15 (v := ?_) (fun _ => trivial) (by simp only [List.getElem?_toArray, List.getElem?_cons_succ, List.getElem?_cons_zero]; rfl) (by kernel_rfl) (fun _ _ _ _ _ h => h) ⟨rfl, (by intro c h; cases h), ?_⟩ hHeld ?_
                rotate_left
                focus (intro wS hSw; (try replace hSw := HSF.out wS hSw); (try dsimp only at hSw); go_simp; (try with_reducible rfl))
                (try simp only [Act.put, List.setIfInBounds_toArray, List.set_cons_zero, List.set_cons_succ])
                have sA := S0.out.below BA.out
                have sAB := S0.out.below BAB.out
                have sBA := S0.out.below BBA.out
                have sB := S0.out.below (show Below wr.heap.size wr ((wr.alloc (Obj.cells #[.int .i64 (tos.length : Int)] 3)).drew) by (repeat (first | exact Below.refl _ _ | assumption | refine below_drewN ?_ _ | refine Below.drew ?_ | refine Below.alloc ?_ (by (try simp); (try omega)) _ | refine Below.setCell ?_ (by (try simp); (try omega)) _)))
                have yA := Y17.out.below BA.out Y17.out.lt
                have yAB := Y17.out.below BAB.out Y17.out.lt
                have yBA := Y17.out.below BBA.out Y17.out.lt
                have yB := Y17.out.below (show Below wr.heap.size wr ((wr.alloc (Obj.cells #[.int .i64 (tos.length : Int)] 3)).drew) by (repeat (first | exact Below.refl _ _ | assumption | refine below_drewN ?_ _ | refine Below.drew ?_ | refine Below.alloc ?_ (by (try simp); (try omega)) _ | refine Below.setCell ?_ (by (try simp); (try omega)) _))) Y17.out.lt
                have hA := hid (And.intro ((sA.sb.cell 3).trans (by simp)) (And.intro ((sA.sb.cell 4).trans (by simp)) ((yA.cell 1).trans (by simp))) : _ = some (Value.slice AO fm.length cO) ∧ _ = some (Value.slice AL fm.length cL) ∧ _ = some (Value.slice A4 tos.length c4))
                have hB := hid (And.intro ((sB.sb.cell 3).trans (by simp)) (And.intro ((sB.sb.cell 4).trans (by simp)) ((yB.cell 1).trans (by simp))) : _ = some (Value.slice AO fm.length cO) ∧ _ = some (Value.slice AL fm.length cL) ∧ _ = some (Value.slice A4 tos.length c4))
                have hAB := hid (And.intro ((sAB.sb.cell 3).trans (by simp)) (And.intro ((sAB.sb.cell 4).trans (by simp)) ((yAB.cell 1).trans (by simp))) : _ = some (Value.slice AO fm.length cO) ∧ _ = some (Value.slice AL fm.length cL) ∧ _ = some (Value.slice A4 tos.length c4))
                have hBA := hid (And.intro ((sBA.sb.cell 3).trans (by simp)) (And.intro ((sBA.sb.cell 4).trans (by simp)) ((yBA.cell 1).trans (by simp))) : _ = some (Value.slice AO fm.length cO) ∧ _ = some (Value.slice AL fm.length cL) ∧ _ = some (Value.slice A4 tos.length c4))
                clear sA sAB sBA sB yA yAB yBA yB q3 q4 y1
                refine wpAnyS_ready [7, 16] (by kernel_rfl) (by simp) (AllReadyS.cons rfl rfl (fun K hK => ?_) (AllReadyS.cons rfl rfl (fun K hK => ?_) AllReadyS.nil))
                · as_aux_lemma =>
                    go_simp
                    refine hK.out _ _ (hA.out) ?_
                    clear hK K
                    refine wpAnyS_ready [8, 16] (by kernel_rfl) (by simp) (AllReadyS.cons rfl rfl (fun K hK => ?_) (AllReadyS.cons rfl rfl (fun K hK => ?_) AllReadyS.nil))
                    · refine appS (fun _ => trivial) _ (.tmp 94) (.tmp 96) rfl w.heap.size (.slice AO fm.length cO) (ownL fm) fm.length hnO.out rfl oA.out _ 1 (p : Int) rfl cAA.out hlO.out (by (try simp); omega) ?_
                      intro gO cO' wO hoO hgrO hatO
                      have FO := hid (two_O S0.out Y17.out BA.out hgrO hoO hatO)
                      have f3 := FO.out.1.2.1.cell 3; have f4 := FO.out.1.2.1.cell 4; have fy := FO.out.2.2.2.2.cell 1
                      simp only [List.getElem?_toArray, List.getElem?_cons_succ, List.getElem?_cons_zero] at f3 f4 fy
                      refine hK.out _ _ (⟨f3, f4, fy⟩) ?_
                      clear hK K f3 f4 fy hoO hgrO hatO hHeld
                      have hzz := FO.out.2.1
                      refine wpAnyS_ready [16] (by kernel_rfl) (by simp) (AllReadyS.cons (by simp only [List.getElem?_toArray, List.getElem?_cons_succ, List.getElem?_cons_zero]; rfl) rfl (fun K hK => ?_) AllReadyS.nil)
                      go_simp
                      have f3 := (FO.out.1.2.1.alloc (Obj.cells #[.int .i64 (tos.length : Int)] 3)).cell 3; have f4 := (FO.out.1.2.1.alloc (Obj.cells #[.int .i64 (tos.length : Int)] 3)).cell 4; have fy := (FO.out.2.2.2.2.alloc (Obj.cells #[.int .i64 (tos.length : Int)] 3)).cell 1
                      simp only [List.getElem?_toArray, List.getElem?_cons_succ, List.getElem?_cons_zero] at f3 f4 fy
                      refine hK.out _ _ (⟨f3, f4, fy⟩) ?_
                      clear hK K f3 f4 fy
                      refine wpAnyS_ready [17] (by kernel_rfl) (by simp) (AllReadyS.cons (by simp only [List.getElem?_toArray, List.getElem?_cons_succ, List.getElem?_cons_zero]; rfl) rfl (fun K hK => ?_) AllReadyS.nil)
                      refine appS (fun _ => trivial) _ (.tmp 101) (.tmp 105) rfl w.heap.size (.slice AL fm.length cL) (lenL fm) fm.length hnL.out rfl (OwnI.alloc FO.out.2.2.2.1 _) _ 1 (tos.length : Int) rfl ((Blk.new _ _ _).cell 0) hlL.out (by (try simp); omega) ?_
                      intro gL cL' wL hoL hgrL hatL
                      have F2 := two_OL FO.out.1.1 FO.out.1.2.1 FO.out.1.2.2.1 FO.out.1.2.2.2 S0.out.lo ((Below.refl _ _).alloc (Nat.le_refl _) _) hgrL hoL hatL
                      have e3 := F2.2.2.1.cell 3; have e4 := F2.2.2.1.cell 4; have ef3 := F2.2.2.1.frozen 3; have ef4 := F2.2.2.1.frozen 4; have ez := F2.2.2.1.lt
                      have ey := (F2.2.2.2.blk Y17.out (by decide) (by decide) (by decide)).cell 1
                      simp only [List.getElem?_toArray, List.getElem?_cons_succ, List.getElem?_cons_zero] at e3 e4 ey
                      refine hK.out _ _ (⟨e3, e4, ey⟩) ?_
                      clear hK K
                      have hHeld := And.intro e3 (And.intro e4 ey)
                      refine wpAnyS_pure 18 (v := ?_) (fun _ => trivial) (by simp only [List.getElem?_toArray, List.getElem?_cons_succ, List.getElem?_cons_zero]; rfl) (by kernel_rfl) (fun _ _ _ _ _ h => h) ⟨rfl, (by intro c h; cases h), ?_⟩ hHeld ?_
                      rotate_left
                      focus (intro wS hSw; (try replace hSw := HSF.out wS hSw); (try dsimp only at hSw); go_simp; (try with_reducible rfl))
                      (try simp only [Act.put, List.setIfInBounds_toArray, List.set_cons_zero, List.set_cons_succ])
                      refine wpAnyS_pure 19 (v := ?_) (fun _ => trivial) (by simp only [List.getElem?_toArray, List.getElem?_cons_succ, List.getElem?_cons_zero]; rfl) (by kernel_rfl) (fun _ _ _ _ _ h => h) ⟨rfl, (by intro c h; cases h), ?_⟩ hHeld ?_
                      rotate_left
                      focus (intro wS hSw; (try replace hSw := HSF.out wS hSw); (try dsimp only at hSw); go_simp; (try with_reducible rfl))
                      (try simp only [Act.put, List.setIfInBounds_toArray, List.set_cons_zero, List.set_cons_succ])
                      refine wpAnyS_ready [20] (by kernel_rfl) (by simp) (AllReadyS.consL (by simp only [List.getElem?_toArray, List.getElem?_cons_succ, List.getElem?_cons_zero]; rfl) rfl (by kernel_rfl) (fun K hK => ?_) AllReadyS.nil)
                      go_simp
                      refine hK.out _ _ ?_
                      clear hK K hHeld ey
                      refine wpAnyS_pureL 21 (v := ?_) (fun _ => trivial) (by simp only [List.getElem?_toArray, List.getElem?_cons_succ, List.getElem?_cons_zero]; rfl) (by kernel_rfl) (by kernel_rfl) (fun _ _ _ _ _ h => h) ⟨rfl, (by intro c h; cases h), ?_⟩ ?_
                      rotate_left
                      focus (intro wS hSw; (try replace hSw := HSF.out wS hSw); (try dsimp only at hSw); go_simp; (try with_reducible rfl))
                      (try simp only [Act.put, List.setIfInBounds_toArray, List.set_cons_zero, List.set_cons_succ])
                      refine wpAnyS_pureL 22 (v := ?_) (fun _ => trivial) (by simp only [List.getElem?_toArray, List.getElem?_cons_succ, List.getElem?_cons_zero]; rfl) (by kernel_rfl) (by kernel_rfl) (fun _ _ _ _ _ h => h) ⟨rfl, (by intro c h; cases h), ?_⟩ ?_
                      rotate_left
                      focus (intro wS hSw; (try replace hSw := HSF.out wS hSw); (try dsimp only at hSw); go_simp; (try with_reducible rfl))
                      (try simp only [Act.put, List.setIfInBounds_toArray, List.set_cons_zero, List.set_cons_succ])
                      refine wpAnyS_ready [23] (by kernel_rfl) (by simp) (AllReadyS.consL (by simp only [List.getElem?_toArray, List.getElem?_cons_succ, List.getElem?_cons_zero]; rfl) rfl (by kernel_rfl) (fun K hK => ?_) AllReadyS.nil)
                      go_simp
                      refine hK.out _ _ ?_
                      refine wpAnyS_done (by kernel_rfl) ?_
                      clear hK K e3 e4 ef3 ef4 ez
                      have F3 := hid (show BS w _ b gi (some ⟨b3, off3, none⟩) (some ⟨b2, off2, none⟩) cg cm (goal, mvs) (rkG (goal.take (p + 1))) (quG goal (p + 1)) (fm ++ [mvN p (act, tos)]) [] from ⟨_, _, _, _, _, by simpa [ownL, lenL] using F2.1, F2.2.1.below HB9.out (Nat.le_refl _), F2.2.1.blk HX9.out (by decide) (by decide) (by decide)⟩)
                      clear F2 hoL hgrL hatL FO
                      go_wp2_with fail
                      go_roundw
                      case rel => exact ⟨k + 1, by omega, by go_num, by rw [← hfm.out]; exact F3.out⟩
                      case measure => simp [intOf]; omega
                    · go_simp
                      refine hK.out _ _ (hAB.out) ?_
                      clear hK K
                      refine wpAnyS_ready [8] (by kernel_rfl) (by simp) (AllReadyS.cons (by simp only [List.getElem?_toArray, List.getElem?_cons_succ, List.getElem?_cons_zero]; rfl) rfl (fun K hK => ?_) AllReadyS.nil)
                      refine appS (fun _ => trivial) _ (.tmp 94) (.tmp 96) rfl w.heap.size (.slice AO fm.length cO) (ownL fm) fm.length hnO.out rfl oAB.out _ 1 (p : Int) rfl cAAB.out hlO.out (by (try simp); omega) ?_
                      intro gO cO' wO hoO hgrO hatO
                      have FO := hid (two_O S0.out Y17.out BAB.out hgrO hoO hatO)
                      have f3 := FO.out.1.2.1.cell 3; have f4 := FO.out.1.2.1.cell 4; have fy := FO.out.2.2.2.2.cell 1
                      simp only [List.getElem?_toArray, List.getElem?_cons_succ, List.getElem?_cons_zero] at f3 f4 fy
                      refine hK.out _ _ (⟨f3, f4, fy⟩) ?_
                      clear hK K f3 f4 fy hoO hgrO hatO hHeld
                      have hzz := FO.out.2.1
                      have kB : wO.cell? ⟨wr.heap.size + 1, 0, none⟩ = some (.int .i64 (tos.length : Int)) := (FO.out.2.2.1 _ _ (Nat.le_succ _) zAB.out).trans cBAB.out
                      refine wpAnyS_ready [17] (by kernel_rfl) (by simp) (AllReadyS.cons (by simp only [List.getElem?_toArray, List.getElem?_cons_succ, List.getElem?_cons_zero]; rfl) rfl (fun K hK => ?_) AllReadyS.nil)
                      refine appS (fun _ => trivial) _ (.tmp 101) (.tmp 105) rfl w.heap.size (.slice AL fm.length cL) (lenL fm) fm.length hnL.out rfl FO.out.2.2.2.1 _ 1 (tos.length : Int) rfl kB hlL.out (by (try simp); omega) ?_
                      intro gL cL' wL hoL hgrL hatL
                      have F2 := two_OL FO.out.1.1 FO.out.1.2.1 FO.out.1.2.2.1 FO.out.1.2.2.2 S0.out.lo (Below.refl _ _) hgrL hoL hatL
                      have e3 := F2.2.2.1.cell 3; have e4 := F2.2.2.1.cell 4; have ef3 := F2.2.2.1.frozen 3; have ef4 := F2.2.2.1.frozen 4; have ez := F2.2.2.1.lt
                      have ey := (F2.2.2.2.blk Y17.out (by decide) (by decide) (by decide)).cell 1
                      simp only [List.getElem?_toArray, List.getElem?_cons_succ, List.getElem?_cons_zero] at e3 e4 ey
                      refine hK.out _ _ (⟨e3, e4, ey⟩) ?_
                      clear hK K
                      have hHeld := And.intro e3 (And.intro e4 ey)
                      refine wpAnyS_pure 18 (v := ?_) (fun _ => trivial) (by simp only [List.getElem?_toArray, List.getElem?_cons_succ, List.getElem?_cons_zero]; rfl) (by kernel_rfl) (fun _ _ _ _ _ h => h) ⟨rfl, (by intro c h; cases h), ?_⟩ hHeld ?_
                      rotate_left
                      focus (intro wS hSw; (try replace hSw := HSF.out wS hSw); (try dsimp only at hSw); go_simp; (try with_reducible rfl))
                      (try simp only [Act.put, List.setIfInBounds_toArray, List.set_cons_zero, List.set_cons_succ])
                      refine wpAnyS_pure 19 (v := ?_) (fun _ => trivial) (by simp only [List.getElem?_toArray, List.getElem?_cons_succ, List.getElem?_cons_zero]; rfl) (by kernel_rfl) (fun _ _ _ _ _ h => h) ⟨rfl, (by intro c h; cases h), ?_⟩ hHeld ?_
                      rotate_left
                      focus (intro wS hSw; (try replace hSw := HSF.out wS hSw); (try dsimp only at hSw); go_simp; (try with_reducible rfl))
                      (try simp only [Act.put, List.setIfInBounds_toArray, List.set_cons_zero, List.set_cons_succ])
                      refine wpAnyS_ready [20] (by kernel_rfl) (by simp) (AllReadyS.consL (by simp only [List.getElem?_toArray, List.getElem?_cons_succ, List.getElem?_cons_zero]; rfl) rfl (by kernel_rfl) (fun K hK => ?_) AllReadyS.nil)
                      go_simp
                      refine hK.out _ _ ?_
                      clear hK K hHeld ey
                      refine wpAnyS_pureL 21 (v := ?_) (fun _ => trivial) (by simp only [List.getElem?_toArray, List.getElem?_cons_succ, List.getElem?_cons_zero]; rfl) (by kernel_rfl) (by kernel_rfl) (fun _ _ _ _ _ h => h) ⟨rfl, (by intro c h; cases h), ?_⟩ ?_
                      rotate_left
                      focus (intro wS hSw; (try replace hSw := HSF.out wS hSw); (try dsimp only at hSw); go_simp; (try with_reducible rfl))
                      (try simp only [Act.put, List.setIfInBounds_toArray, List.set_cons_zero, List.set_cons_succ])
                      refine wpAnyS_pureL 22 (v := ?_) (fun _ => trivial) (by simp only [List.getElem?_toArray, List.getElem?_cons_succ, List.getElem?_cons_zero]; rfl) (by kernel_rfl) (by kernel_rfl) (fun _ _ _ _ _ h => h) ⟨rfl, (by intro c h; cases h), ?_⟩ ?_
                      rotate_left
                      focus (intro wS hSw; (try replace hSw := HSF.out wS hSw); (try dsimp only at hSw); go_simp; (try with_reducible rfl))
                      (try simp only [Act.put, List.setIfInBounds_toArray, List.set_cons_zero, List.set_cons_succ])
                      refine wpAnyS_ready [23] (by kernel_rfl) (by simp) (AllReadyS.consL (by simp only [List.getElem?_toArray, List.getElem?_cons_succ, List.getElem?_cons_zero]; rfl) rfl (by kernel_rfl) (fun K hK => ?_) AllReadyS.nil)
                      go_simp
                      refine hK.out _ _ ?_
                      refine wpAnyS_done (by kernel_rfl) ?_
                      clear hK K e3 e4 ef3 ef4 ez
                      have F3 := hid (show BS w _ b gi (some ⟨b3, off3, none⟩) (some ⟨b2, off2, none⟩) cg cm (goal, mvs) (rkG (goal.take (p + 1))) (quG goal (p + 1)) (fm ++ [mvN p (act, tos)]) [] from ⟨_, _, _, _, _, by simpa [ownL, lenL] using F2.1, F2.2.1.below HB9.out (Nat.le_refl _), F2.2.1.blk HX9.out (by decide) (by decide) (by decide)⟩)
                      clear F2 hoL hgrL hatL FO
                      go_wp2_with fail
                      go_roundw
                      case rel => exact ⟨k + 1, by omega, by go_num, by rw [← hfm.out]; exact F3.out⟩
                      case measure => simp [intOf]; omega
                · as_aux_lemma =>
                    go_simp
                    refine hK.out _ _ (hB.out) ?_
                    clear hK K
                    refine wpAnyS_ready [7] (by kernel_rfl) (by simp) (AllReadyS.cons (by simp only [List.getElem?_toArray, List.getElem?_cons_succ, List.getElem?_cons_zero]; rfl) rfl (fun K hK => ?_) AllReadyS.nil)
                    go_simp
                    refine hK.out _ _ (hBA.out) ?_
                    clear hK K
                    refine wpAnyS_ready [8] (by kernel_rfl) (by simp) (AllReadyS.cons (by simp only [List.getElem?_toArray, List.getElem?_cons_succ, List.getElem?_cons_zero]; rfl) rfl (fun K hK => ?_) AllReadyS.nil)
                    refine appS (fun _ => trivial) _ (.tmp 94) (.tmp 96) rfl w.heap.size (.slice AO fm.length cO) (ownL fm) fm.length hnO.out rfl oBA.out _ 1 (p : Int) rfl cABA.out hlO.out (by (try simp); omega) ?_
                    intro gO cO' wO hoO hgrO hatO
                    have FO := hid (two_O S0.out Y17.out BBA.out hgrO hoO hatO)
                    have f3 := FO.out.1.2.1.cell 3; have f4 := FO.out.1.2.1.cell 4; have fy := FO.out.2.2.2.2.cell 1
                    simp only [List.getElem?_toArray, List.getElem?_cons_succ, List.getElem?_cons_zero] at f3 f4 fy
                    refine hK.out _ _ (⟨f3, f4, fy⟩) ?_
                    clear hK K f3 f4 fy hoO hgrO hatO hHeld
                    have hzz := FO.out.2.1
                    have kB : wO.cell? ⟨wr.heap.size, 0, none⟩ = some (.int .i64 (tos.length : Int)) := (FO.out.2.2.1 _ _ (Nat.le_refl _) zBA0.out).trans cBBA.out
                    refine wpAnyS_ready [17] (by kernel_rfl) (by simp) (AllReadyS.cons (by simp only [List.getElem?_toArray, List.getElem?_cons_succ, List.getElem?_cons_zero]; rfl) rfl (fun K hK => ?_) AllReadyS.nil)
                    refine appS (fun _ => trivial) _ (.tmp 101) (.tmp 105) rfl w.heap.size (.slice AL fm.length cL) (lenL fm) fm.length hnL.out rfl FO.out.2.2.2.1 _ 1 (tos.length : Int) rfl kB hlL.out (by (try simp); omega) ?_
                    intro gL cL' wL hoL hgrL hatL
                    have F2 := two_OL FO.out.1.1 FO.out.1.2.1 FO.out.1.2.2.1 FO.out.1.2.2.2 S0.out.lo (Below.refl _ _) hgrL hoL hatL
                    have e3 := F2.2.2.1.cell 3; have e4 := F2.2.2.1.cell 4; have ef3 := F2.2.2.1.frozen 3; have ef4 := F2.2.2.1.frozen 4; have ez := F2.2.2.1.lt
                    have ey := (F2.2.2.2.blk Y17.out (by decide) (by decide) (by decide)).cell 1
                    simp only [List.getElem?_toArray, List.getElem?_cons_succ, List.getElem?_cons_zero] at e3 e4 ey
                    refine hK.out _ _ (⟨e3, e4, ey⟩) ?_
                    clear hK K
                    have hHeld := And.intro e3 (And.intro e4 ey)
                    refine wpAnyS_pure 18 (v := ?_) (fun _ => trivial) (by simp only [List.getElem?_toArray, List.getElem?_cons_succ, List.getElem?_cons_zero]; rfl) (by kernel_rfl) (fun _ _ _ _ _ h => h) ⟨rfl, (by intro c h; cases h), ?_⟩ hHeld ?_
                    rotate_left
                    focus (intro wS hSw; (try replace hSw := HSF.out wS hSw); (try dsimp only at hSw); go_simp; (try with_reducible rfl))
                    (try simp only [Act.put, List.setIfInBounds_toArray, List.set_cons_zero, List.set_cons_succ])
                    refine wpAnyS_pure 19 (v := ?_) (fun _ => trivial) (by simp only [List.getElem?_toArray, List.getElem?_cons_succ, List.getElem?_cons_zero]; rfl) (by kernel_rfl) (fun _ _ _ _ _ h => h) ⟨rfl, (by intro c h; cases h), ?_⟩ hHeld ?_
                    rotate_left
                    focus (intro wS hSw; (try replace hSw := HSF.out wS hSw); (try dsimp only at hSw); go_simp; (try with_reducible rfl))
                    (try simp only [Act.put, List.setIfInBounds_toArray, List.set_cons_zero, List.set_cons_succ])
                    refine wpAnyS_ready [20] (by kernel_rfl) (by simp) (AllReadyS.consL (by simp only [List.getElem?_toArray, List.getElem?_cons_succ, List.getElem?_cons_zero]; rfl) rfl (by kernel_rfl) (fun K hK => ?_) AllReadyS.nil)
                    go_simp
                    refine hK.out _ _ ?_
                    clear hK K hHeld ey
                    refine wpAnyS_pureL 21 (v := ?_) (fun _ => trivial) (by simp only [List.getElem?_toArray, List.getElem?_cons_succ, List.getElem?_cons_zero]; rfl) (by kernel_rfl) (by kernel_rfl) (fun _ _ _ _ _ h => h) ⟨rfl, (by intro c h; cases h), ?_⟩ ?_
                    rotate_left
                    focus (intro wS hSw; (try replace hSw := HSF.out wS hSw); (try dsimp only at hSw); go_simp; (try with_reducible rfl))
                    (try simp only [Act.put, List.setIfInBounds_toArray, List.set_cons_zero, List.set_cons_succ])
                    refine wpAnyS_pureL 22 (v := ?_) (fun _ => trivial) (by simp only [List.getElem?_toArray, List.getElem?_cons_succ, List.getElem?_cons_zero]; rfl) (by kernel_rfl) (by kernel_rfl) (fun _ _ _ _ _ h => h) ⟨rfl, (by intro c h; cases h), ?_⟩ ?_
                    rotate_left
                    focus (intro wS hSw; (try replace hSw := HSF.out wS hSw); (try dsimp only at hSw); go_simp; (try with_reducible rfl))
                    (try simp only [Act.put, List.setIfInBounds_toArray, List.set_cons_zero, List.set_cons_succ])
                    refine wpAnyS_ready [23] (by kernel_rfl) (by simp) (AllReadyS.consL (by simp only [List.getElem?_toArray, List.getElem?_cons_succ, List.getElem?_cons_zero]; rfl) rfl (by kernel_rfl) (fun K hK => ?_) AllReadyS.nil)
                    go_simp
                    refine hK.out _ _ ?_
                    refine wpAnyS_done (by kernel_rfl) ?_
                    clear hK K e3 e4 ef3 ef4 ez
                    have F3 := hid (show BS w _ b gi (some ⟨b3, off3, none⟩) (some ⟨b2, off2, none⟩) cg cm (goal, mvs) (rkG (goal.take (p + 1))) (quG goal (p + 1)) (fm ++ [mvN p (act, tos)]) [] from ⟨_, _, _, _, _, by simpa [ownL, lenL] using F2.1, F2.2.1.below HB9.out (Nat.le_refl _), F2.2.1.blk HX9.out (by decide) (by decide) (by decide)⟩)
                    clear F2 hoL hgrL hatL FO
                    go_wp2_with fail
                    go_roundw
                    case rel => exact ⟨k + 1, by omega, by go_num, by rw [← hfm.out]; exact F3.out⟩
                    case measure => simp [intOf]; omega
          · obtain rfl : k = l.length := by omega
            have S8 := hid hS
            rw [List.take_length, ← HFT.out] at S8
            clear hS
            as_aux_lemma =>
              go_wp2_with fail
              go_roundw
              case rel => exact ⟨p + 1, by omega, by go_num, S8.out⟩
              case measure => simp [intOf]; omega
    · obtain rfl : p = mvs.length := by omega
      have S9 := hid hS
      clear hS
      have e1 := hid (show rkG (goal.take mvs.length) = (start (goal, mvs)).R by have := HN.out; rw [← this, List.take_length]; rfl)
      have e2 := hid (show quG goal mvs.length = (start (goal, mvs)).Q.map Int.ofNat by have := HN.out; rw [← this]; rfl)
      rw [List.take_length, e1.out, e2.out] at S9
      go_wp2_with fail
      go_ret
      exact ⟨b, gi, rfl, S9.out⟩
end Go.Proofs.Ytdjjhflhdhihcaa
