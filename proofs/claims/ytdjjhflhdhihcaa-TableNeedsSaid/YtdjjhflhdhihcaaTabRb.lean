
/- Game: the reference's Right. -/
import Derived.Test.YtdjjhflhdhihcaaGamM
import Derived.Test.YtdjjhflhdhihcaaReg
set_option linter.unusedSimpArgs false
set_option linter.unusedVariables false
namespace Go.Proofs.Ytdjjhflhdhihcaa
open Go.RowKit Go.IntWalk Go.Shelf

theorem zero_or (k : Nat) : k = 0 ∨ ∃ j, k = j + 1 := by cases k with | zero => exact .inl rfl | succ j => exact .inr ⟨j, rfl⟩
set_option maxRecDepth 100000 in
set_option maxHeartbeats 40000000 in
theorem rright_any (Ag Am : Option Addr) (cg cm : Nat) (g : Gm) (w : World) (h : GmR w w.heap.size Ag Am g) :
    Calls Try.prog 17 #[.agg #[.slice Ag g.1.length cg, .slice Am g.2.length cm]] w fun e w' => e = .returned (.bool (rightL g)) ∧ Below w.heap.size w w' := by
  have hlg := h.lg; have hlm := h.lm
  unfold maxLen at hlg hlm
  obtain ⟨goal, mvs⟩ := g
  simp only at hlg hlm
  have H := hid h
  have hm := h.mvs
  simp only at hm
  clear h
  have hB1 := hid (show Below w.heap.size w (w.alloc (Obj.cells #[.slice Ag goal.length cg, .slice Am mvs.length cm] 25)) by (repeat (first | exact Below.refl _ _ | assumption | refine below_drewN ?_ _ | refine Below.drew ?_ | refine Below.alloc ?_ (by (try simp); (try omega)) _ | refine Below.setCell ?_ (by (try simp); (try omega)) _)))
  have X1 := hid (Blk.new w 25 #[.slice Ag goal.length cg, .slice Am mvs.length cm])
  by_cases hne : goal.length = mvs.length
  case neg =>
    have hne' : ¬ (goal.length : Int) = mvs.length := by omega
    have hr := hid (show rightL (goal, mvs) = false by simp [rightL, hne])
    clear hne
    go_enter Try.func17, Try.ntmps17
    go_wp2_with fail
    go_ret
    exact ⟨ret_bool hr.out.symm, hB1.out⟩
  have hne' : (goal.length : Int) = mvs.length := by omega
  by_cases hbig : (2000000 : Int) < mvs.length
  · have hr := hid (show rightL (goal, mvs) = false by have : ¬ goal.length ≤ 2000000 := (by omega); simp [rightL, this])
    clear hne
    go_enter Try.func17, Try.ntmps17
    go_wp2_with fail
    go_ret
    exact ⟨ret_bool hr.out.symm, hB1.out⟩
  have hr := hid (show rightL (goal, mvs) = mvs.all (mvsOK mvs.length (-1)) by have : goal.length ≤ 2000000 := (by omega); simp [rightL, hne]; intro; omega)
  clear hne
  go_enter Try.func17, Try.ntmps17
  go_upto_region 1 with fail
  obtain ⟨w0, hw0⟩ : ∃ w0, w0 = (w.alloc (Obj.cells #[.slice Ag goal.length cg, .slice Am mvs.length cm] 25)) := ⟨_, rfl⟩
  rw [← hw0]
  have hB0 := hid (show Below w.heap.size w w0 by rw [hw0]; (repeat (first | exact Below.refl _ _ | assumption | refine below_drewN ?_ _ | refine Below.drew ?_ | refine Below.alloc ?_ (by (try simp); (try omega)) _ | refine Below.setCell ?_ (by (try simp); (try omega)) _)))
  have X0 := hid (show Blk w0 w.heap.size 25 #[.slice Ag goal.length cg, .slice Am mvs.length cm] by rw [hw0]; exact Blk.new _ _ _)
  clear hw0 hB1 X1
  have x0 := X0.out.cell 0; have x1 := X0.out.cell 1; have xz := X0.out.lt
  simp at x0 x1
  go_wp2_with fail
  go_loopw [4] (fun i wr => ∃ p : Nat, p ≤ mvs.length ∧ i = .int .i64 p ∧ Below w.heap.size w wr ∧ Below w0.heap.size w0 wr ∧ (mvs.take p).all (mvsOK mvs.length (-1)) = true) (fun i _ => mvs.length - (intOf i).toNat)
  case atStart => exact ⟨0, by omega, rfl, hB0.out, Below.refl _ _, by simp⟩
  case round =>
    clear hB0 x0 x1 xz
    obtain ⟨p, hp, rfl, hB, hB0, ha⟩ := hrel
    have HB := hid (And.intro hB hB0)
    by_cases hlt : p < mvs.length
    · have hlt' : (p : Int) < mvs.length := by omega
      obtain ⟨b, off, A', c', rfl, hb, hc, h1, h2, h3⟩ := hm.list hlt
      have HC0 := hid hc
      have hst := all_take (mvsOK mvs.length (-1)) mvs p hlt
      rw [ha, Bool.true_and] at hst
      have HST := hid hst
      have hfl : mvsOK mvs.length (-1) mvs[p] = false → mvs.all (mvsOK mvs.length (-1)) = false := fun hf => by
        cases hx : mvs.all (mvsOK mvs.length (-1)) with
        | false => rfl
        | true => rw [List.all_eq_true] at hx; rw [hx _ (List.getElem_mem hlt)] at hf; cases hf
      have HFL := hid hfl
      generalize mvs[p] = l at *
      have hll : l.length ≤ 9223372036854775807 := by unfold maxLen at h2; omega
      have H3 := hid h3
      clear ha hst hfl hB hB0 h1 h2 hc h3
      go_wp2_with fail
      go_loopw [5] (fun j wq => ∃ k : Nat, k ≤ l.length ∧ j = .int .i64 k ∧ Below w.heap.size w wq ∧ Below w0.heap.size w0 wq ∧ mvsOK mvs.length (-1) l = mvsOK mvs.length (lastA l k) (l.drop k) ∧ -1 ≤ lastA l k) (fun j _ => l.length - (intOf j).toNat)
      case atStart => exact ⟨0, by omega, rfl, HB.out.1, HB.out.2, by simp [lastA], by simp [lastA]⟩
      case round =>
        obtain ⟨k, hk, rfl, hBq, hBq0, ha, hlo⟩ := hrel
        have HQ := hid (And.intro hBq hBq0)
        have X2 := hid (X0.out.below hBq0 X0.out.lt)
        have x0 := X2.out.cell 0; have x1 := X2.out.cell 1; have xz := X2.out.lt
        simp at x0 x1
        have hc := (bcell hBq b _ hb).trans HC0.out
        have hzb : b < wr.heap.size := by have := hBq.size; omega
        have HLO := hid hlo
        by_cases hlk : k < l.length
        · have hlk' : (k : Int) < l.length := by omega
          obtain ⟨b2, off2, A2, c2, rfl, hb2, g0, g1, _, g4, hs, _⟩ := H3.out.mv hlk
          have hprev : ∀ j, k = j + 1 → w.cell? ⟨b2, off2 + j * 2, none⟩ = some (.int .i64 (lastA l k)) := fun j e => by
            obtain ⟨b3, off3, A3, c3, hA3, _, g03, _⟩ := H3.out.mv (k := j) (by omega)
            simp only [Option.some.injEq, Addr.mk.injEq, and_true] at hA3
            obtain ⟨rfl, rfl⟩ := hA3
            rw [g03]
            subst e
            rw [lastA_succ l j (by omega)]
          have HPV := hid hprev
          replace g0 := (bcell hBq b2 _ hb2).trans g0
          replace g1 := (bcell hBq b2 _ hb2).trans g1
          have hz2 : b2 < wr.heap.size := by have := hBq.size; omega
          have hst2 : mvsOK mvs.length (lastA l k) (l.drop k) = (decide (lastA l k < l[k].1) && !l[k].2.isEmpty && asc mvs.length (-1) l[k].2 && mvsOK mvs.length l[k].1 (l.drop (k + 1))) := by rw [drop_cons l k hlk]; rfl
          have HS2 := hid (ha.trans hst2)
          have HLA := hid (lastA_succ l k hlk)
          clear ha hst2 hprev
          generalize l[k] = m at *
          obtain ⟨act, tos⟩ := m
          simp only at g0 g1 g4 hs
          have hto' : tos.length ≤ 9223372036854775807 := by have : tos.length ≤ maxLen := (by simp only at *; omega); unfold maxLen at this; omega
          have hfin := hid (fun (hx : mvsOK mvs.length (-1) l = false) => show false = rightL (goal, mvs) by rw [hr.out, HFL.out hx])
          have HSS := hid hs
          generalize hla : lastA l k = la at *
          have M9 := Blk.new wr 49 #[.int .i64 act, .slice A2 tos.length c2]
          have b9 : Below wr.heap.size wr (wr.alloc (Obj.cells #[.int .i64 act, .slice A2 tos.length c2] 49)) := (Below.refl _ _).alloc (Nat.le_refl _) _
          have HQ9 := hid (And.intro (hBq.trans (b9.mono hBq.size)) (hBq0.trans (b9.mono hBq0.size)))
          have X3 := hid (X2.out.below b9 X2.out.lt)
          clear hs hBq hBq0 g4 hlo X2
          go_upto_region 11 with fail
          generalize wr.alloc (Obj.cells #[.int .i64 act, .slice A2 tos.length c2] 49) = w9 at *
          generalize wr.heap.size = gm at *
          have m0 := M9.cell 0; have m1 := M9.cell 1; have mz := M9.lt
          have x0 := X3.out.cell 0; have x1 := X3.out.cell 1; have xz := X3.out.lt
          simp at m0 m1 x0 x1
          have hc := (bcell HQ9.out.1 b _ hb).trans HC0.out
          have hzb : b < w9.heap.size := by have := HQ9.out.1.size; omega
          have hz2 : b2 < w9.heap.size := by have := HQ9.out.1.size; omega
          have M10 := hid M9
          clear M9 b9 g0 g1
          have HFIN := hfin
          by_cases ha0 : act < 0
          · as_aux_lemma =>
              go_wp2_with fail
              go_ret
              exact ⟨ret_bool (hfin.out (by rw [HS2.out]; have : ¬ la < act := (by have := HLO.out; omega); simp [this])), HQ9.out.1⟩
          by_cases hem : tos = []
          · subst hem
            as_aux_lemma =>
              go_wp2_with fail
              go_ret
              exact ⟨ret_bool (hfin.out (by rw [HS2.out]; simp)), HQ9.out.1⟩
          have hem0 : ¬ (tos.length : Int) = 0 := by
            intro h0
            exact hem (List.eq_nil_of_length_eq_zero (by omega))
          have hem7 : ((tos.length : Int) == 0) = false := by simpa using hem
          have hem8 : ¬ ((tos.length : Int) == 0) = true := by rw [hem7]; simp
          have HEM := hid hem
          clear hem
          go_upto_region 13 with fail
          go_cut [68] (fun tv wx => tv = .bool (decide (act ≤ la)) ∧ Below w9.heap.size w9 wx)
          case first =>
            rcases zero_or k with hk0 | ⟨j, hkj⟩
            · have dk : decide ((0 : Int) < (k : Int)) = false := by simp [hk0]
              have dk2 : decide (0 < k) = false := by simp [hk0]
              have e9 : la = -1 := by rw [← hla, hk0]; rfl
              have hla0 := hid (show decide (act ≤ la) = false by simp; omega)
              clear hk0 e9
              as_aux_lemma =>
                go_quiet (fail)
                go_wp2_with fail
                go_meet
                exact ⟨by rw [hla0.out], below_drewN (Below.refl _ _) _⟩
            · have dk : decide ((0 : Int) < (k : Int)) = true := by simp [hkj]; try omega
              have hk1 : 0 < k := by omega
              have hwk : IntKind.i64.wrap ((k : Int) - 1) = (j : Int) := by rw [IntWalk.i64_in _ (by omega)]; omega
              have hjl : (j : Int) < l.length := by omega
              have hpv := (bcell HQ9.out.1 b2 _ hb2).trans (HPV.out j hkj)
              clear hkj
              as_aux_lemma =>
                go_quiet (fail)
                go_wp2_with fail
                go_meet
                exact ⟨rfl, below_drewN (Below.refl _ _) _⟩
          case rest =>
            obtain ⟨rfl, bc⟩ := hcut
            by_cases hlac : la < act
            case neg =>
              have hle9 : act ≤ la := by omega
              have hd9 := hid (show decide (la < act) = false by simpa using hlac)
              have hBc := hid (HQ9.out.1.trans (bc.mono HQ9.out.1.size))
              clear bc
              as_aux_lemma =>
                go_wp2_with fail
                go_ret
                exact ⟨ret_bool (hfin.out (by rw [HS2.out, hd9.out]; simp)), hBc.out⟩
            have hle9 : ¬ act ≤ la := by omega
            have HQc := hid (And.intro (HQ9.out.1.trans (bc.mono HQ9.out.1.size)) (HQ9.out.2.trans (bc.mono HQ9.out.2.size)))
            have Mc := hid (M10.out.below bc M10.out.lt)
            have HS3 := hid (show mvsOK mvs.length (-1) l = (asc mvs.length (-1) tos && mvsOK mvs.length act (l.drop (k + 1))) by
                have he : tos.isEmpty = false := by cases tos with | nil => exact absurd rfl HEM.out | cons a b => rfl
                rw [HS2.out]; simp [hlac, he])
            clear bc M10 m0 m1 mz x0 x1 xz hc hzb hz2
            go_wp2_with fail
            go_loopw [7] (fun jv wq => ∃ j : Nat, j ≤ tos.length ∧ jv = .int .i64 j ∧ Below wc.heap.size wc wq ∧ asc mvs.length (-1) tos = asc mvs.length (lastK tos j) (tos.drop j) ∧ -1 ≤ lastK tos j) (fun jv _ => tos.length - (intOf jv).toNat)
            case atStart => exact ⟨0, by omega, rfl, Below.refl _ _, by simp [lastK], by simp [lastK]⟩
            case round =>
              obtain ⟨j, hj, rfl, hBj, has, hlj⟩ := hrel
              have HBJ := hid hBj
              have HAS := hid has
              have HLJ := hid hlj
              have HQj := hid (And.intro (HQc.out.1.trans (hBj.mono HQc.out.1.size)) (HQc.out.2.trans (hBj.mono HQc.out.2.size)))
              have Mj := hid (Mc.out.below hBj Mc.out.lt)
              have m1 := Mj.out.cell 1; have mz := Mj.out.lt
              simp at m1
              clear hBj has hlj
              by_cases hlj : j < tos.length
              · have hlj' : (j : Int) < tos.length := by omega
                obtain ⟨b4, off4, rfl, hb4, ct, _⟩ := HSS.out.int hlj
                have ct0 := ct
                replace ct := (bcell HQj.out.1 b4 _ hb4).trans ct
                have hz4 : b4 < wr.heap.size := by have := HQj.out.1.size; omega
                have hst : asc mvs.length (lastK tos j) (tos.drop j) = (decide (lastK tos j < tos[j]) && decide (tos[j] < mvs.length) && asc mvs.length tos[j] (tos.drop (j + 1))) := by rw [drop_cons tos j hlj]; rfl
                have HST3 := hid (HAS.out.trans hst)
                have HLS := hid (lastK_succ tos j hlj)
                have hprev : ∀ i, j = i + 1 → wr.cell? ⟨b4, off4 + i, none⟩ = some (.int .i64 (lastK tos j)) := fun i e => by
                  have h5 := HSS.out.int_at (k := i) (by omega)
                  rw [(bcell HQj.out.1 b4 _ hb4).trans h5]
                  subst e
                  rw [lastK_succ tos i (by omega)]
                have hno := hid (fun (hx : asc mvs.length (-1) tos = false) => hfin.out (by rw [HS3.out, hx]; rfl))
                clear hst ct0 hz4
                have hz4 : b4 < wr.heap.size := by have := HQj.out.1.size; omega
                generalize tos[j] = x at *
                generalize hlk : lastK tos j = y at *
                by_cases hx0 : x < 0
                · have d1 : decide (x < 0) = true := by simpa using hx0
                  clear hprev
                  as_aux_lemma =>
                    go_wp2_with fail
                    go_quiet (fail)
                    go_wp2_with fail
                    go_ret
                    exact ⟨ret_bool (hno.out (by rw [HST3.out]; have : ¬ y < x := (by have := HLJ.out; omega); simp [this])), below_drewN HQj.out.1 _⟩
                have d1 : decide (x < 0) = false := by simpa using hx0
                by_cases hxn : (mvs.length : Int) ≤ x
                · have d2 : decide ((mvs.length : Int) ≤ x) = true := by simpa using hxn
                  clear hprev
                  as_aux_lemma =>
                    go_wp2_with fail
                    go_quiet (fail)
                    go_wp2_with fail
                    go_ret
                    exact ⟨ret_bool (hno.out (by rw [HST3.out]; have : ¬ x < (mvs.length : Int) := (by omega); simp [this])), below_drewN HQj.out.1 _⟩
                have d2 : decide ((mvs.length : Int) ≤ x) = false := by simpa using hxn
                rcases zero_or j with hj0 | ⟨i, hji⟩
                · have d3 : decide ((0 : Int) < (j : Int)) = false := by simp [hj0]
                  have d5 : decide (0 < j) = false := by simp [hj0]
                  have e9 : y = -1 := by rw [← hlk, hj0]; rfl
                  have hyx : y < x := by omega
                  clear hj0 e9
                  clear hprev
                  as_aux_lemma =>
                    go_wp2_with fail
                    go_quiet (fail)
                    go_wp2_with fail
                    go_roundw
                    case rel => exact ⟨j + 1, by omega, by go_num, below_drewN HBJ.out _, by rw [HST3.out, HLS.out]; simp; omega, by rw [HLS.out]; have := HLJ.out; omega⟩
                    case measure => simp [intOf]; omega
                · have d3 : decide ((0 : Int) < (j : Int)) = true := by simp [hji]; try omega
                  have hj1 : 0 < j := by omega
                  have hwj : IntKind.i64.wrap ((j : Int) - 1) = (i : Int) := by rw [IntWalk.i64_in _ (by omega)]; omega
                  have hil : (i : Int) < tos.length := by omega
                  have hpv := hprev i hji
                  have hmx : max (i : Int) 0 = i := by omega
                  clear hprev hji
                  by_cases hxy : x ≤ y
                  · have d4 : decide (x ≤ y) = true := by simpa using hxy
                    as_aux_lemma =>
                      go_wp2_with fail
                      go_quiet (fail)
                      go_wp2_with fail
                      go_ret
                      exact ⟨ret_bool (hno.out (by rw [HST3.out]; have : ¬ y < x := (by omega); simp [this])), below_drewN HQj.out.1 _⟩
                  · have d4 : decide (x ≤ y) = false := by simpa using hxy
                    as_aux_lemma =>
                      go_wp2_with fail
                      go_quiet (fail)
                      go_wp2_with fail
                      go_roundw
                      case rel => exact ⟨j + 1, by omega, by go_num, below_drewN HBJ.out _, by rw [HST3.out, HLS.out]; simp; omega, by rw [HLS.out]; have := HLJ.out; omega⟩
                      case measure => simp [intOf]; omega
              · obtain rfl : j = tos.length := by omega
                have hok := hid (show mvsOK mvs.length (-1) l = mvsOK mvs.length (lastA l (k + 1)) (l.drop (k + 1)) by rw [HS3.out, HAS.out, HLA.out]; simp [asc])
                as_aux_lemma =>
                  go_wp2_with fail
                  go_roundw
                  case rel => exact ⟨k + 1, by omega, by go_num, HQj.out.1, HQj.out.2, hok.out, by rw [HLA.out]; omega⟩
                  case measure => simp [intOf]; omega
        · obtain rfl : k = l.length := by omega
          have hok := hid (show mvsOK mvs.length (-1) l = true by rw [ha]; simp [mvsOK])
          clear ha hBq hBq0 hlo
          as_aux_lemma =>
            go_wp2_with fail
            go_roundw
            case rel => exact ⟨p + 1, by omega, by go_num, HQ.out.1, HQ.out.2, by rw [HST.out, hok.out]⟩
            case measure => simp [intOf]; omega
    · obtain rfl : p = mvs.length := by omega
      have hall := hid (show rightL (goal, mvs) = true by rw [hr.out, ← ha, List.take_length])
      clear ha hB hB0
      as_aux_lemma =>
        go_wp2_with fail
        go_ret
        exact ⟨ret_bool hall.out.symm, HB.out.1⟩
end Go.Proofs.Ytdjjhflhdhihcaa
