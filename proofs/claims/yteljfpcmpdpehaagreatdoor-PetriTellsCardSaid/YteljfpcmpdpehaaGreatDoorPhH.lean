
/- Petri, the reference: Siphons. -/
import Derived.Test.YteljfpcmpdpehaaGreatDoorPhG
set_option linter.unusedSimpArgs false
set_option linter.unusedVariables false
namespace Go.Proofs.YteljfpcmpdpehaaGreatDoor
open Go.RowKit Go.IntWalk Go.Shelf

/-- How far the reference's Largest has come. -/
def measL : Value → Value → Nat
  | .slice _ n _, .bool b => n + b.toNat
  | _, _ => 0
/-- A list at a slice, with its capacity. -/
structure Ls (w : World) (v : Value) (l : List Int) : Prop where
  ex : ∃ A c, v = .slice A l.length c ∧ l.length ≤ c ∧ c ≤ maxLen ∧ SlR w w.heap.size A l
theorem Ls.below {w w' : World} {v : Value} {l : List Int} (h : Ls w v l) (hB : Below w.heap.size w w') : Ls w' v l := by
  obtain ⟨A, c, e, h1, h2, h3⟩ := h.ex
  exact ⟨A, c, e, h1, h2, (h3.below hB).more hB.size⟩
theorem Ls.own {w : World} {base : Nat} {v : Value} {l : List Int} (h : OwnI w base v l) (hi : ∀ x ∈ l, I64 x) : Ls w v l := by
  obtain ⟨A, c, e, h1, h2, h3⟩ := h.slr hi
  exact ⟨A, c, e, h1, h2, h3⟩
theorem set_i64 {n : Int} {s : List Int} (hn : n ≤ 64) (h : setB n s = true) : ∀ x ∈ s, I64 x := fun x hx => by have := setB_mem h x hx; unfold I64; omega
set_option maxRecDepth 100000 in
set_option maxHeartbeats 8000000 in
theorem largest_r (n : Int) (A : Option Addr) (c : Nat) (T : List Tr) (B : Option Addr) (d : Nat) (s : List Int) (trap : Bool) (w : World) (hl : T.length ≤ maxLen) (h : SlR w w.heap.size A T) (hs : s.length ≤ maxLen) (hS : SlR w w.heap.size B s) (hok : netOK (n, T) = true) :
    Calls Tryz.prog 18 #[.agg #[.int .i64 n, .slice A T.length c], .slice B s.length d, .bool trap] w fun e w' => ∃ A' c' r, e = .returned (.slice A' r.length c') ∧ LargeL n T trap s r ∧ r.length ≤ maxLen ∧ SlR w' w'.heap.size A' r ∧ Below w.heap.size w w' := by
  obtain ⟨w1, hw1⟩ : ∃ w1, w1 = (w.alloc (Obj.cells #[.int .i64 n, .slice A T.length c] 24)) := ⟨_, rfl⟩
  have B1 : Below w.heap.size w w1 := by rw [hw1]; (repeat (first | exact Below.refl _ _ | assumption | refine below_drewN ?_ _ | refine Below.drew ?_ | refine Below.alloc ?_ (by (try simp); (try omega)) _ | refine Below.setCell ?_ (by (try simp); (try omega)) _))
  have x1 : Blk w1 w.heap.size 24 #[.int .i64 n, .slice A T.length c] := by rw [hw1]; exact Blk.new w _ _
  have HX := hid (fun (W : World) (hW : Below w1.heap.size w1 W) => And.intro (show W.cell? ⟨w.heap.size, 0, none⟩ = some (.int .i64 n) from (bcell hW _ _ x1.lt).trans (by rw [x1.cell]; rfl)) (And.intro (show W.cell? ⟨w.heap.size, 1, none⟩ = some (.slice A T.length c) from (bcell hW _ _ x1.lt).trans (by rw [x1.cell]; rfl)) (show w.heap.size < W.heap.size from Nat.lt_of_lt_of_le x1.lt hW.size)))
  have HB1 := hid B1
  have HTT := hid (fun (W : World) (hW : Below w1.heap.size w1 W) => show SlR W W.heap.size A T from (h.below (B1.trans (hW.mono B1.size))).more (B1.trans (hW.mono B1.size)).size)
  have HSS := hid (fun (W : World) (hW : Below w1.heap.size w1 W) => show SlR W W.heap.size B s from (hS.below (B1.trans (hW.mono B1.size))).more (B1.trans (hW.mono B1.size)).size)
  have HST := hid (set_r n B d s w1 hs (HSS.out w1 (Below.refl _ _)))
  have HOK := hid hok
  have hn64 : 0 ≤ n ∧ n ≤ 64 := by
    simp only [netOK, Bool.and_eq_true, decide_eq_true_eq] at hok
    exact ⟨hok.1.1.1, hok.1.1.2⟩
  clear x1 B1 h hS hok
  unfold maxLen at hl hs
  obtain ⟨y0, y1, z1⟩ := HX.out w1 (Below.refl _ _)
  go_enter Tryz.func18, Tryz.ntmps18
  go_upto_region 1 with fail
  rw [← hw1]
  clear hw1
  cases hq : setB n s with
  | false =>
    have hr := hid (show LargeL n T trap s [] by unfold LargeL; rw [hq]; simp)
    rw [hq] at HST
    clear hq
    as_aux_lemma =>
      go_wp2_with (go_at_call 49; refine HST.out.mono ?_; rintro e w2 ⟨rfl, hB⟩)
      have HB2 := hid hB
      clear hB
      go_wp2_with fail
      go_ret
      exact ⟨none, 0, [], rfl, hr.out, by simp, SlR.nil, HB1.out.trans (HB2.out.mono HB1.out.size)⟩
  | true =>
  rw [hq] at HST
  have HQ := hid hq
  have hsl := setB_len hq hn64.1
  clear hq
  go_upto_region 3 with (go_at_call 49; refine HST.out.mono ?_; rintro e w2 ⟨rfl, hB⟩)
  have HB2 := hid hB
  have hms := hid (HSS.out w2 hB)
  have hown := hid (show iRK.Own (w2.alloc (Obj.cells #[] 3)) w2.heap.size (.slice (some ⟨w2.heap.size, 0, none⟩) 0 0) [] from RK.Own.fresh (l := []) (Blk.new w2 _ _) (Nat.le_refl _) (by simp))
  have hl9 := hid (show ([] : List Int).length + s.length ≤ 100000000 by simp; omega)
  clear hB HST y0 y1 z1
  go_upto_region 4 with (at_builtin; refine iRK.appL _ rfl (.tmp 16) (.tmp 17) rfl rfl hown.out (ys := s) (c := d) rfl (hms.out.alloc (Nat.le_refl _) _) hl9.out (by simp) ?_; intro A3 c3 w3 ho3 hg3)
  have hB3 : Below w2.heap.size w2 w3 := ((Below.refl _ w2).alloc (Nat.le_refl _) _).grown hg3 (by simp) (fun g hg => (own_blk hown.out g hg).1)
  simp only [List.length_nil, Nat.zero_add, List.nil_append] at ho3 ⊢
  have HB3 := hid (HB2.out.trans (hB3.mono HB2.out.size))
  have HL3 := hid (Ls.own (iOwn_iff.1 ho3) (set_i64 hn64.2 HQ.out))
  clear hB3 ho3 hg3 hown hl9 hms HB2
  go_upto_region 5 with fail
  go_loopw [1, 7] (fun sv ag wr => ∃ (s' : List Int) (a : Bool), ag = .bool a ∧ Ls wr sv s' ∧ Below w1.heap.size w1 wr ∧ Hid (LgI n T trap s s') ∧ Hid (a = false → T.any (hitT trap s') = false)) (fun sv ag _ => measL sv ag)
  case atStart => exact ⟨s, true, rfl, HL3.out, HB3.out, ⟨HQ.out, fun r hr => hr⟩, fun h => by cases h⟩
  case round =>
    clear HL3 HB3
    obtain ⟨s', a, rfl, hls, hB, hri, haf⟩ := hrel
    obtain ⟨A', c', rfl, hc1, hc2, hsr⟩ := hls.ex
    have HB := hid hB
    have HSR := hid hsr
    have hsl' := setB_len hri.out.1 hn64.1
    clear hls hB hsr
    cases a with
    | false =>
      have hz := haf.out rfl
      have hfin := hid (hri.out.done HOK.out HQ.out hz)
      by_cases h0 : s'.length = 0
      · have hb0 : (((s'.length : Nat) : Int) == 0) = true := by simp [h0]
        have hfin2 := hid (show LargeL n T trap s [] by have := hfin.out; rwa [List.eq_nil_of_length_eq_zero h0] at this)
        rw [h0]
        as_aux_lemma =>
          go_wp2_with fail
          go_ret
          exact ⟨none, 0, [], rfl, hfin2.out, by simp, SlR.nil, HB1.out.trans (HB.out.mono HB1.out.size)⟩
      · have hb0 : (((s'.length : Nat) : Int) == 0) = false := by simp [h0]
        as_aux_lemma =>
          go_wp2_with fail
          go_ret
          exact ⟨A', c', s', rfl, hfin.out, by unfold maxLen; omega, HSR.out, HB1.out.trans (HB.out.mono HB1.out.size)⟩
    | true =>
      clear haf
      have HP := hid (fun k hk => passI HOK.out hri.out.1 trap k hk)
      obtain ⟨wo, hwo⟩ : ∃ wo, wo = wr := ⟨_, rfl⟩
      subst hwo
      go_upto_region 8 with fail
      go_loopw [1, 7, 8] (fun sv ag i wr => ∃ (k : Nat) (p : List Int × Bool), k ≤ T.length ∧ i = .int .i64 k ∧ ag = .bool p.2 ∧ Ls wr sv p.1 ∧ Below w1.heap.size w1 wr ∧ Hid (p = passR trap (T.take k) s')) (fun _ _ i _ => T.length - (intOf i).toNat)
      case atStart => exact ⟨0, (s', false), by omega, rfl, rfl, ⟨A', c', rfl, hc1, hc2, HSR.out⟩, HB.out, rfl⟩
      case round =>
        clear HB HSR hc1 hc2
        obtain ⟨k, p, hk, rfl, rfl, hls, hB, hp⟩ := hrel
        obtain ⟨s1, ag⟩ := p
        simp only at hls
        obtain ⟨A5, c5, rfl, hc1, hc2, hsr⟩ := hls.ex
        have HB := hid hB
        have HSR := hid hsr
        clear hls hB hsr
        obtain ⟨y0, y1, z1⟩ := HX.out wr HB.out
        by_cases hlt : k < T.length
        · have hlt' : (k : Int) < T.length := by omega
          have hpi := HP.out k (by omega)
          rw [← hp.out] at hpi
          have hsl1 : (s1.length : Int) ≤ n := setB_len hpi.set hn64.1
          have HSET : Hid (setB n s1 = true) := hid hpi.set
          have hps := hid (show passR trap (T.take (k + 1)) s' = stepR trap (s1, ag) T[k] by rw [passR_take _ _ _ _ hlt, ← hp.out])
          have hts := hid (net_set HOK.out trap (List.getElem_mem hlt))
          obtain ⟨b, off, A1, c1, A2, c2, rfl, hb, g0, g1, q1, q2, l1, l2⟩ := (HTT.out wr HB.out).tr hlt
          generalize T[k] = t at *
          obtain ⟨I, O⟩ := t
          simp only at g0 g1 q1 q2 l1 l2
          have HQ1 := hid q1
          have HQ2 := hid q2
          have hsm := hid (show s1.length ≤ maxLen by unfold maxLen; omega)
          have HL1 := hid l1
          have HL2 := hid l2
          clear hpi q1 q2 l1 l2 hp
          cases trap with
          | false =>
            as_aux_lemma =>
              have hh := hid (show hitT false s1 (I, O) = (meetsN O s1 && !meetsN I s1) from rfl)
              have HM1 := hid (meets_any A2 A5 c2 c5 O s1 wr HL2.out hsm.out HQ2.out HSR.out)
              have HM2 := hid (fun (W : World) (hW : Below wr.heap.size wr W) => meets_any A1 A5 c1 c5 I s1 W HL1.out hsm.out ((HQ1.out.below hW).more hW.size) ((HSR.out.below hW).more hW.size))
              have HW0 := hid (fun (W : World) (hW : Below wr.heap.size wr W) => without_r A5 A2 c5 c2 s1 O W hc1 (by omega) hc2 HL2.out ((HSR.out.below hW).more hW.size) ((HQ2.out.below hW).more hW.size))
              have HLs := hid (fun (W : World) (hW : Below wr.heap.size wr W) => show Ls W (.slice A5 s1.length c5) s1 from ⟨A5, c5, rfl, hc1, hc2, (HSR.out.below hW).more hW.size⟩)
              go_upto_region 15 with fail
              cases hq1 : meetsN O s1 with
              | false =>
                have hno := hid (show hitT false s1 (I, O) = false by rw [hh.out, hq1]; rfl)
                rw [hq1] at HM1
                clear hq1
                go_wp2_with (go_at_call 57; refine HM1.out.mono ?_; rintro e w5 ⟨rfl, hB5⟩; have HL5 := hid (HLs.out w5 hB5); have HB5 := hid (HB.out.trans (hB5.mono HB.out.size)); clear hB5)
                go_roundw
                case rel => exact ⟨k + 1, (s1, ag), by omega, by go_num, rfl, HL5.out, HB5.out, by rw [hps.out]; unfold stepR; rw [hno.out]; rfl⟩
                case measure => simp [intOf]; omega
              | true =>
                rw [hq1] at HM1
                go_wp2_with fail
                refine HM1.out.mono ?_
                rintro e w5 ⟨rfl, hB5⟩
                have HB5 := hid (HB.out.trans (hB5.mono HB.out.size))
                have HM3 := hid (HM2.out w5 hB5)
                have HB5r := hid hB5
                clear hB5 HM2 HM1
                cases hq2 : meetsN I s1 with
                | true =>
                  have hno := hid (show hitT false s1 (I, O) = false by rw [hh.out, hq1, hq2]; rfl)
                  rw [hq2] at HM3
                  clear hq1 hq2
                  go_wp2_with (go_at_call 57; refine HM3.out.mono ?_; rintro e w6 ⟨rfl, hB6⟩; have HB6r := hid (HB5r.out.trans (hB6.mono HB5r.out.size)); have HL6 := hid (HLs.out w6 HB6r.out); have HB6 := hid (HB5.out.trans (hB6.mono HB5.out.size)); clear hB6)
                  go_roundw
                  case rel => exact ⟨k + 1, (s1, ag), by omega, by go_num, rfl, HL6.out, HB6.out, by rw [hps.out]; unfold stepR; rw [hno.out]; rfl⟩
                  case measure => simp [intOf]; omega
                | false =>
                  have hno := hid (show hitT false s1 (I, O) = true by rw [hh.out, hq1, hq2]; rfl)
                  rw [hq2] at HM3
                  clear hq1 hq2
                  go_upto_region 16 with (go_at_call 57; refine HM3.out.mono ?_; rintro e w6 ⟨rfl, hB6⟩; have HB6r := hid (HB5r.out.trans (hB6.mono HB5r.out.size)); have HB6 := hid (HB5.out.trans (hB6.mono HB5.out.size)); clear hB6)
                  have HW1 := hid (HW0.out w6 HB6r.out)
                  have hwi := hid (set_i64 hn64.2 (without_set (l := O) HSET.out))
                  clear HW0 HM3
                  go_wp2_with (go_at_call 59; refine HW1.out.mono ?_; rintro e w7 ⟨A7, c7, rfl, ho7, hB7⟩; have HL7 := hid (Ls.own ho7 hwi.out); have HB7 := hid (HB6.out.trans (hB7.mono HB6.out.size)); clear ho7 hB7)
                  go_roundw
                  case rel => exact ⟨k + 1, (withoutN s1 O, true), by omega, by go_num, rfl, HL7.out, HB7.out, by rw [hps.out]; unfold stepR; rw [hno.out]; rfl⟩
                  case measure => simp [intOf]; omega
          | true =>
            as_aux_lemma =>
              have hh := hid (show hitT true s1 (I, O) = (meetsN I s1 && !meetsN O s1) from rfl)
              have HM1 := hid (meets_any A1 A5 c1 c5 I s1 wr HL1.out hsm.out HQ1.out HSR.out)
              have HM2 := hid (fun (W : World) (hW : Below wr.heap.size wr W) => meets_any A2 A5 c2 c5 O s1 W HL2.out hsm.out ((HQ2.out.below hW).more hW.size) ((HSR.out.below hW).more hW.size))
              have HW0 := hid (fun (W : World) (hW : Below wr.heap.size wr W) => without_r A5 A1 c5 c1 s1 I W hc1 (by omega) hc2 HL1.out ((HSR.out.below hW).more hW.size) ((HQ1.out.below hW).more hW.size))
              have HLs := hid (fun (W : World) (hW : Below wr.heap.size wr W) => show Ls W (.slice A5 s1.length c5) s1 from ⟨A5, c5, rfl, hc1, hc2, (HSR.out.below hW).more hW.size⟩)
              go_upto_region 15 with fail
              cases hq1 : meetsN I s1 with
              | false =>
                have hno := hid (show hitT true s1 (I, O) = false by rw [hh.out, hq1]; rfl)
                rw [hq1] at HM1
                clear hq1
                go_wp2_with (go_at_call 57; refine HM1.out.mono ?_; rintro e w5 ⟨rfl, hB5⟩; have HL5 := hid (HLs.out w5 hB5); have HB5 := hid (HB.out.trans (hB5.mono HB.out.size)); clear hB5)
                go_roundw
                case rel => exact ⟨k + 1, (s1, ag), by omega, by go_num, rfl, HL5.out, HB5.out, by rw [hps.out]; unfold stepR; rw [hno.out]; rfl⟩
                case measure => simp [intOf]; omega
              | true =>
                rw [hq1] at HM1
                go_wp2_with fail
                refine HM1.out.mono ?_
                rintro e w5 ⟨rfl, hB5⟩
                have HB5 := hid (HB.out.trans (hB5.mono HB.out.size))
                have HM3 := hid (HM2.out w5 hB5)
                have HB5r := hid hB5
                clear hB5 HM2 HM1
                cases hq2 : meetsN O s1 with
                | true =>
                  have hno := hid (show hitT true s1 (I, O) = false by rw [hh.out, hq1, hq2]; rfl)
                  rw [hq2] at HM3
                  clear hq1 hq2
                  go_wp2_with (go_at_call 57; refine HM3.out.mono ?_; rintro e w6 ⟨rfl, hB6⟩; have HB6r := hid (HB5r.out.trans (hB6.mono HB5r.out.size)); have HL6 := hid (HLs.out w6 HB6r.out); have HB6 := hid (HB5.out.trans (hB6.mono HB5.out.size)); clear hB6)
                  go_roundw
                  case rel => exact ⟨k + 1, (s1, ag), by omega, by go_num, rfl, HL6.out, HB6.out, by rw [hps.out]; unfold stepR; rw [hno.out]; rfl⟩
                  case measure => simp [intOf]; omega
                | false =>
                  have hno := hid (show hitT true s1 (I, O) = true by rw [hh.out, hq1, hq2]; rfl)
                  rw [hq2] at HM3
                  clear hq1 hq2
                  go_upto_region 16 with (go_at_call 57; refine HM3.out.mono ?_; rintro e w6 ⟨rfl, hB6⟩; have HB6r := hid (HB5r.out.trans (hB6.mono HB5r.out.size)); have HB6 := hid (HB5.out.trans (hB6.mono HB5.out.size)); clear hB6)
                  have HW1 := hid (HW0.out w6 HB6r.out)
                  have hwi := hid (set_i64 hn64.2 (without_set (l := I) HSET.out))
                  clear HW0 HM3
                  go_wp2_with (go_at_call 59; refine HW1.out.mono ?_; rintro e w7 ⟨A7, c7, rfl, ho7, hB7⟩; have HL7 := hid (Ls.own ho7 hwi.out); have HB7 := hid (HB6.out.trans (hB7.mono HB6.out.size)); clear ho7 hB7)
                  go_roundw
                  case rel => exact ⟨k + 1, (withoutN s1 I, true), by omega, by go_num, rfl, HL7.out, HB7.out, by rw [hps.out]; unfold stepR; rw [hno.out]; rfl⟩
                  case measure => simp [intOf]; omega
        · obtain rfl : k = T.length := by omega
          have hpi := HP.out T.length (Nat.le_refl _)
          rw [List.take_length] at hpi hp
          rw [← hp.out] at hpi
          have hnext := hid (show LgI n T trap s s1 by
            have := hri.out.next HOK.out
            rw [← hp.out] at this
            exact this)
          have hno := hid (show ag = false → T.any (hitT trap s1) = false from fun h => by
            obtain ⟨e, h2⟩ := hpi.no h
            simp only at e
            rw [e]; exact h2)
          have hme := hid (show s1.length + ag.toNat < s'.length + 1 by
            have h1 := hpi.le
            cases ag with
            | false => simp only at h1; simp only [Bool.toNat_false]; omega
            | true => have h2 := hpi.yes rfl; simp only at h2; simp only [Bool.toNat_true]; omega)
          clear hpi hp HP
          go_wp2_with fail
          go_roundw
          case rel => exact ⟨s1, ag, rfl, ⟨A5, c5, rfl, hc1, hc2, HSR.out⟩, HB.out, hnext.out, hno.out⟩
          case measure => have := hme.out; simp [measL]; omega
end Go.Proofs.YteljfpcmpdpehaaGreatDoor
namespace Go.Proofs.YteljfpcmpdpehaaGreatDoor
open Go.RowKit Go.IntWalk Go.Shelf

theorem SlR.dropK {T : Type} [Rep T] {w : World} {B b off : Nat} {l : List T} (h : SlR w B (some ⟨b, off, none⟩) l) (m : Nat) : SlR w B (some ⟨b, off + m * Rep.size T, none⟩) (l.drop m) := by
  intro k x hx
  rw [List.getElem?_drop] at hx
  obtain ⟨b', off', es, hA, hb, hs, hc, hr⟩ := h (m + k) x hx
  injection hA with hA
  injection hA with e1 e2 _
  subst e1 e2
  refine ⟨b, off + m * Rep.size T, es, rfl, hb, hs, fun j u hu => ?_, hr⟩
  have := hc j u hu
  rw [show off + m * Rep.size T + k * Rep.size T + j = off + (m + k) * Rep.size T + j by rw [Nat.add_mul]; omega]
  exact this
theorem SlR.takeK {T : Type} [Rep T] {w : World} {B : Nat} {A : Option Addr} {l : List T} (h : SlR w B A l) (m : Nat) : SlR w B A (l.take m) := by
  intro k x hx
  refine h k x ?_
  rw [List.getElem?_take] at hx
  split at hx
  · exact hx
  · cases hx
theorem Lies.at_ {w : World} {base : Nat} {H : List Hd} {L : List (List Int)} (h : Lies w base H L) {k : Nat} (h1 : k < H.length) (h2 : k < L.length) : H[k].n = L[k].length ∧ OwnI w base (.slice H[k].A L[k].length H[k].c) L[k] ∧ ∀ x ∈ L[k], I64 x := h.2 k h1 h2
theorem Lies.app {w : World} {base : Nat} {H H2 : List Hd} {L L2 : List (List Int)} (h : Lies w base H L) (h2 : Lies w base H2 L2) : Lies w base (H ++ H2) (L ++ L2) := by
  have e1 := h.1
  have e2 := h2.1
  refine ⟨by rw [List.length_append, List.length_append]; omega, fun k hk hl => ?_⟩
  by_cases hh : k < H.length
  · rw [List.getElem_append_left hh, List.getElem_append_left (by omega)]
    exact h.2 k hh (by omega)
  · rw [List.getElem_append_right (by omega), List.getElem_append_right (by omega)]
    rw [List.length_append] at hk hl
    have := h2.2 (k - H.length) (by omega) (by omega)
    simp only [← e1]
    exact this
theorem Lies.takeK {w : World} {base : Nat} {H : List Hd} {L : List (List Int)} (h : Lies w base H L) (m : Nat) : Lies w base (H.take m) (L.take m) := by
  have e1 := h.1
  refine ⟨by rw [List.length_take, List.length_take]; omega, fun k hk hl => ?_⟩
  rw [List.length_take] at hk hl
  rw [List.getElem_take, List.getElem_take]
  exact h.2 k (by omega) (by omega)
theorem Lies.dropK {w : World} {base : Nat} {H : List Hd} {L : List (List Int)} (h : Lies w base H L) (m : Nat) : Lies w base (H.drop m) (L.drop m) := by
  have e1 := h.1
  refine ⟨by rw [List.length_drop, List.length_drop]; omega, fun k hk hl => ?_⟩
  rw [List.length_drop] at hk hl
  rw [List.getElem_drop, List.getElem_drop]
  exact h.2 (m + k) (by omega) (by omega)
theorem Lies.one {w : World} {base : Nat} {A : Option Addr} {l : List Int} {c : Nat} (ho : OwnI w base (.slice A l.length c) l) (hi : ∀ x ∈ l, I64 x) : Lies w base [⟨A, l.length, c⟩] [l] := by
  have := Lies.nil (w := w) (base := base) |>.push ho hi
  simpa using this
theorem nodup_bound (M : Nat) (F : List Nat) (h : F.Nodup) (hb : ∀ x ∈ F, x < M) : F.length ≤ M := by
  have hp : ((List.range M).filter (fun x => decide (x ∈ F))).Perm F := by
    refine (List.perm_ext_iff_of_nodup (List.nodup_range.filter _) h).2 fun x => ?_
    rw [List.mem_filter, List.mem_range, decide_eq_true_eq]
    exact ⟨fun hx => hx.2, fun hx => ⟨hb x hx, hx⟩⟩
  rw [← hp.length_eq]
  exact Nat.le_trans (List.length_filter_le _ _) (by simp)
theorem RefW.len {E : List Ed} {N k : Nat} {F : List Nat} (h : RefW E N k F) : F.length ≤ 2 ^ N :=
  nodup_bound _ F (h.sorted.imp (fun {a b} h e => by subst e; rw [cmpK_self] at h; omega)) (fun x hx => ((h.mem x).1 hx).1.1)
theorem FoundW.len {E : List Ed} {N k b : Nat} {F G : List Nat} (g : FoundW E N k b F G) : G.length ≤ b :=
  nodup_bound _ G (g.sorted.imp (fun {a b} h e => by subst e; rw [cmpL_self] at h; omega)) (fun x hx => ((g.mem x).1 hx).1)
theorem listN_ints (w : Nat) : ∀ x ∈ listN w, I64 x := listN_i64 w
end Go.Proofs.YteljfpcmpdpehaaGreatDoor
namespace Go.Proofs.YteljfpcmpdpehaaGreatDoor
open Go.RowKit Go.IntWalk Go.Shelf

/-- A row of lists of the call's own that holds the words F. -/
structure Rw (w : World) (base : Nat) (v : Value) (F : List Nat) : Prop where
  ex : ∃ (H : List Hd) (A : Option Addr) (c : Nat), v = .slice A F.length c ∧ H.length = F.length ∧ hdRK.Own w base (.slice A F.length c) H ∧ Lies w base H (F.map listN)
theorem Rw.nil {w : World} {base : Nat} : Rw w base (.slice none 0 0) [] := ⟨[], none, 0, rfl, rfl, RK.Own.nil, Lies.nil⟩
theorem Rw.below {w w' : World} {base : Nat} {v : Value} {F : List Nat} (h : Rw w base v F) (hB : Below w.heap.size w w') : Rw w' base v F := by
  obtain ⟨H, A, c, e, h1, h2, h3⟩ := h.ex
  exact ⟨H, A, c, e, h1, h2.below hB, h3.kept (KT.of_below hB)⟩
/-- It reads as a list of lists. -/
theorem Rw.slr {w : World} {base : Nat} {v : Value} {F : List Nat} (h : Rw w base v F) : ∃ A c, v = .slice A F.length c ∧ F.length ≤ c ∧ c ≤ maxLen ∧ SlR w w.heap.size A (F.map listN) := by
  obtain ⟨H, A, c, e, h1, h2, h3⟩ := h.ex
  obtain ⟨A', c', e', k1, k2, k3⟩ := h2.slr (fun _ _ => trivial)
  rw [← h1] at e'
  injection e' with e1 _ e2
  subst e1 e2
  exact ⟨A, c, e, by omega, k2, h3.slr k3 (Nat.le_refl _)⟩
/-- What the reference's Siphons returns. -/
def RetSip (E : List Ed) (N : Nat) (w : World) (e : Ending) (w' : World) : Prop :=
  ∃ (F : List Nat) (A' : Option Addr) (c' : Nat), MinW E N F ∧ e = .returned (.tuple #[.slice A' F.length c', .int .i64 0]) ∧ F.length ≤ maxLen ∧ SlR w' w'.heap.size A' (F.map listN) ∧ Below w.heap.size w w'
set_option maxRecDepth 100000 in
set_option maxHeartbeats 16000000 in
theorem siphons_r (N : Nat) (A : Option Addr) (c : Nat) (T : List Tr) (w : World) (hN : N ≤ 14) (h : SlR w w.heap.size A T) (hok : netOK ((N : Int), T) = true) :
    Calls Tryz.prog 22 #[.agg #[.int .i64 (N : Nat), .slice A T.length c]] w (RetSip (edgesN ((N : Int), T) false) N w) := by
  obtain ⟨w1, hw1⟩ : ∃ w1, w1 = (w.alloc (Obj.cells #[.int .i64 (N : Nat), .slice A T.length c] 24)) := ⟨_, rfl⟩
  have B1 : Below w.heap.size w w1 := by rw [hw1]; (repeat (first | exact Below.refl _ _ | assumption | refine below_drewN ?_ _ | refine Below.drew ?_ | refine Below.alloc ?_ (by (try simp); (try omega)) _ | refine Below.setCell ?_ (by (try simp); (try omega)) _))
  have x1 : Blk w1 w.heap.size 24 #[.int .i64 (N : Nat), .slice A T.length c] := by rw [hw1]; exact Blk.new w _ _
  have HX := hid (fun (W : World) (hW : Below w1.heap.size w1 W) => And.intro (show W.cell? ⟨w.heap.size, 0, none⟩ = some (.int .i64 (N : Nat)) from (bcell hW _ _ x1.lt).trans (by rw [x1.cell]; rfl)) (And.intro (show W.cell? ⟨w.heap.size, 1, none⟩ = some (.slice A T.length c) from (bcell hW _ _ x1.lt).trans (by rw [x1.cell]; rfl)) (show w.heap.size < W.heap.size from Nat.lt_of_lt_of_le x1.lt hW.size)))
  have HB1 := hid B1
  have h5000 : T.length ≤ 5000 := by
    simp only [netOK, Bool.and_eq_true, decide_eq_true_eq] at hok
    exact hok.1.2
  have HIS := hid (fun (W : World) (hW : Below w1.heap.size w1 W) (Bs : Option Addr) (ds : Nat) (b : Nat) (hb : b < 2 ^ N) (hs : SlR W W.heap.size Bs (listN b)) => show Calls Tryz.prog 13 #[.agg #[.int .i64 (N : Nat), .slice A T.length c], .slice Bs (listN b).length ds] W fun e w' => e = .returned (.bool (closedN (edgesN ((N : Int), T) false) b)) ∧ Below W.heap.size W w' from by
    have := siphon_r (N : Int) A c T Bs ds (listN b) W (by unfold maxLen; omega) ((h.below (B1.trans (hW.mono B1.size))).more (B1.trans (hW.mono B1.size)).size) (by have := listN_len b; unfold maxLen; omega) hs hok
    rwa [closed_isN (by omega) hb] at this)
  have hNi : ¬ (14 < (N : Int)) := by omega
  obtain ⟨P, hP⟩ : ∃ P : Nat, P = 2 ^ N := ⟨_, rfl⟩
  have hP14 : P ≤ 16384 := by rw [hP]; exact Nat.pow_le_pow_right (n := 2) (by omega) hN
  have hP1 : 1 ≤ P := by rw [hP]; exact Nat.two_pow_pos N
  have hpw : IntKind.i64.wrap (2 ^ N) = (P : Int) := by
    have : ((2 : Int) ^ N) = ((2 ^ N : Nat) : Int) := by simp
    rw [this, ← hP]; exact i64_in _ (by omega)
  have HP := hid hP
  rw [← hP] at HIS
  clear h hok x1 B1 hP
  generalize edgesN ((N : Int), T) false = E at *
  obtain ⟨y0, y1, z1⟩ := HX.out w1 (Below.refl _ _)
  go_enter Tryz.func22, Tryz.ntmps22
  go_upto_region 1 with fail
  rw [← hw1]
  clear hw1
  go_upto_region 5 with fail
  clear y0 y1 z1
  go_loopw [4, 5] (fun ov sv wr => ∃ (k : Nat) (F : List Nat), k ≤ N ∧ sv = .int .i64 ((k : Int) + 1) ∧ Rw wr w1.heap.size ov F ∧ Below w1.heap.size w1 wr ∧ Hid (RefW E N k F)) (fun _ sv _ => N + 1 - (intOf sv).toNat)
  case atStart => exact ⟨0, [], by omega, rfl, Rw.nil, Below.refl _ _, RefW.zero (by omega)⟩
  case round =>
    obtain ⟨k, F, hk, rfl, hrw, hB, hR⟩ := hrel
    have HB := hid hB
    have HRw := hid hrw
    have hFl := hR.out.len
    rw [← HP.out] at hFl
    clear hB hrw
    obtain ⟨y0, y1, z1⟩ := HX.out wr HB.out
    by_cases hlt : k < N
    case neg =>
      obtain rfl : k = N := by omega
      have hall := hid (hR.out.all (by omega))
      obtain ⟨A', c', rfl, e1, e2, e3⟩ := HRw.out.slr
      have HS := hid e3
      have hkn : ¬ ((k : Int) + 1 ≤ k) := by omega
      clear e3
      as_aux_lemma =>
        go_wp2_with fail
        go_ret2
        exact ⟨F, A', c', hall.out, rfl, by omega, HS.out, HB1.out.trans (HB.out.mono HB1.out.size)⟩
    case pos =>
    have hkn : ((k : Int) + 1 ≤ N) := by omega
    obtain ⟨wo, hwo⟩ : ∃ wo, wo = wr := ⟨_, rfl⟩
    subst hwo
    obtain ⟨Ao, co, rfl, hoc, hom, -⟩ := HRw.out.slr
    go_upto_region 9 with fail
    clear y0 y1 z1
    go_loopw [6, 7] (fun fv bv wr => ∃ (b : Nat) (G : List Nat), 1 ≤ b ∧ b ≤ P ∧ bv = .int .i64 b ∧ Rw wr w1.heap.size fv G ∧ Below wo.heap.size wo wr ∧ Hid (FoundW E N (k + 1) b F G)) (fun _ bv _ => P - (intOf bv).toNat)
    case atStart => exact ⟨1, [], by omega, hP1, rfl, Rw.nil, Below.refl _ _, FoundW.zero⟩
    case round =>
      obtain ⟨b, G, hb1, hb, rfl, hrw, hBo, hG⟩ := hrel
      have HBo := hid hBo
      have HGw := hid hrw
      have HBw := hid (HB.out.trans (hBo.mono HB.out.size))
      have hGl := hG.out.len
      have HRw2 := hid (HRw.out.below hBo)
      clear hrw hBo
      obtain ⟨y0, y1, z1⟩ := HX.out wr HBw.out
      by_cases hlb : b < P
      case neg =>
        obtain rfl : b = P := by omega
        have hRn := hid (hR.out.next (by omega) (by have := hG.out; rwa [HP.out] at this))
        obtain ⟨Hf, Af, cf, rfl, hfl, hfo, hfL⟩ := HGw.out.ex
        obtain ⟨Ho, Ao9, co9, hov, hol, hoo, hoL⟩ := HRw2.out.ex
        injection hov with e1 _ e2
        subst e1 e2
        obtain ⟨Af2, cf2, ef, _, _, hfs⟩ := hfo.slr (fun _ _ => trivial)
        rw [← hfl] at ef
        injection ef with e1 _ e2
        subst e1 e2
        have HFS := hid hfs
        have HFO := hid hfo
        have HOO := hid hoo
        have HFL := hid hfL
        have HOL := hid hoL
        have hl9 := hid (show Ho.length + Hf.length ≤ 100000000 by omega)
        have hb9 := hid (show w1.heap.size ≤ wr.heap.size from HBw.out.size)
        have hx1 := hid (show F.length = Ho.length from hol.symm)
        have hx2 := hid (show G.length = Hf.length from hfl.symm)
        rw [hx1.out, hx2.out]
        clear hfs hfo hoo hfL hoL HGw HRw HRw2
        as_aux_lemma =>
          go_wp2_with (at_builtin; refine hdRK.appL _ rfl (.tmp 95) (.tmp 96) rfl rfl (by have := HOO.out; rw [hx1.out] at this; exact this) (ys := Hf) (c := cf) rfl HFS.out hl9.out hb9.out ?_; intro A9 c9 w9 ho9 hg9)
          have HB9 := hid (show Below w1.heap.size w1 w9 from HBw.out.grown hg9 hb9.out (fun g hg => (own_blk HOO.out g (by rw [hx1.out]; exact hg)).1))
          have hkt := hid (show KT [3] wr w9 from KT.of_grown hg9 (fun g e => by
            obtain ⟨_, cs, hb⟩ := own_blk HOO.out g (by rw [hx1.out]; exact e)
            exact ⟨25, cs, hb, by decide⟩))
          have HR9 := hid (show Rw w9 w1.heap.size (.slice A9 (Ho.length + Hf.length) c9) (F ++ G) from ⟨Ho ++ Hf, A9, c9, by rw [List.length_append, hx1.out, hx2.out], by rw [List.length_append, List.length_append, hx1.out, hx2.out], by rw [List.length_append, hx1.out, hx2.out]; exact ho9, by rw [List.map_append]; exact (HOL.out.kept hkt.out).app (HFL.out.kept hkt.out)⟩)
          clear ho9 hg9
          go_wp2_with fail
          go_roundw
          case rel => exact ⟨k + 1, F ++ G, by omega, by go_num, (by have := HR9.out; rwa [← hx1.out, ← hx2.out] at this), HB9.out, hRn.out⟩
          case measure => simp [intOf]; omega
      case pos =>
      have hlb' : (b : Int) < P := by omega
      have hb2N : b < 2 ^ N := by rw [← HP.out]; exact hlb
      obtain ⟨Af, cf, rfl, hfc, hfm, -⟩ := HGw.out.slr
      have HPl := hid (places_r (b : Int) N wr (by omega))
      rw [pick_word (by omega) hb2N] at HPl
      have hbl := listN_len b
      have hkey := hid (fun (h : (listN b).length ≠ k + 1 ∨ closedN E b = false ∨ ∃ o ∈ F, sub o b) => hG.out.skip h)
      have hb64 := hid (two64 (by omega) hb2N)
      have HISb := hid (fun (W : World) (hW : Below w1.heap.size w1 W) (Bs : Option Addr) (ds : Nat) (hs : SlR W W.heap.size Bs (listN b)) => HIS.out W hW Bs ds b hlb hs)
      have hLI := hid (listN_ints b)
      obtain ⟨s, hs⟩ : ∃ s, s = listN b := ⟨_, rfl⟩
      have hsb := hid hs
      rw [← hs] at HPl hbl hkey HISb hLI
      clear hs hb2N
      go_wp2_with fail
      refine HPl.out.mono ?_
      rintro e w5 ⟨A5, c5, rfl, ho5, hB5⟩
      obtain ⟨A6, c6, e6, k1, k2, s5⟩ := ho5.slr hLI.out
      injection e6 with e1 _ e2
      subst e1 e2
      have HO5 := hid (show OwnI w5 w1.heap.size (.slice A5 s.length c5) s from own_base ho5 HBw.out.size)
      have HS5 := hid s5
      have HB5 := hid hB5
      have HB5w := hid (HBw.out.trans (hB5.mono HBw.out.size))
      have HB5o := hid (HBo.out.trans (hB5.mono HBo.out.size))
      clear ho5 s5 hB5 HPl y0 y1 z1
      obtain ⟨y0, y1, z1⟩ := HX.out w5 HB5w.out
      by_cases hlen : s.length = k + 1
      case neg =>
        have hq : (((s.length : Nat) : Int) == (k : Int) + 1) = false := by simp; omega
        have hg2 := hid (hkey.out (.inl hlen))
        as_aux_lemma =>
          go_wp2_with fail
          go_roundw
          case rel => exact ⟨b + 1, G, by omega, by omega, by go_num, HGw.out.below HB5.out, HB5o.out, hg2.out⟩
          case measure => simp [intOf]; omega
      case pos =>
      have hq : (((s.length : Nat) : Int) == (k : Int) + 1) = true := by simp; omega
      have hq2 : ((s.length : Nat) : Int) = (k : Int) + 1 := by omega
      have HLEN := hid hlen
      clear hlen
      have HI6 := hid (HISb.out w5 HB5w.out A5 c5 HS5.out)
      cases hcl : closedN E b with
      | false =>
        have hg2 := hid (hkey.out (.inr (.inl hcl)))
        rw [hcl] at HI6
        as_aux_lemma =>
          go_wp2_with fail
          refine HI6.out.mono ?_
          rintro e w6 ⟨rfl, hB6⟩
          have HB6 := hid (HB5.out.trans (hB6.mono HB5.out.size))
          have HB6o := hid (HB5o.out.trans (hB6.mono HB5o.out.size))
          clear hB6
          go_wp2_with fail
          go_roundw
          case rel => exact ⟨b + 1, G, by omega, by omega, by go_num, HGw.out.below HB6.out, HB6o.out, hg2.out⟩
          case measure => simp [intOf]; omega
      | true =>
      rw [hcl] at HI6
      go_wp2_with fail
      refine HI6.out.mono ?_
      rintro e w6 ⟨rfl, hB6⟩
      have HB6 := hid (HB5.out.trans (hB6.mono HB5.out.size))
      have HB6w := hid (HB5w.out.trans (hB6.mono HB5w.out.size))
      have HB6o := hid (HB5o.out.trans (hB6.mono HB5o.out.size))
      have HS6 := hid ((HS5.out.below hB6).more hB6.size)
      have HO6 := hid (HO5.out.below hB6)
      have HRw6 := hid (HRw2.out.below HB6.out)
      have HGw6 := hid (HGw.out.below HB6.out)
      clear hB6 HI6 HISb HB5 HB5w HB5o HS5 HO5 HRw2 HGw HBo HBw y0 y1 z1 hq
      go_upto_region 15 with fail
      clear hq2
      go_loopw [9, 10] (fun lv jv wq => ∃ (j : Nat) (q : Bool), j ≤ F.length ∧ jv = .int .i64 j ∧ lv = .bool q ∧ Below w6.heap.size w6 wq ∧ Hid ((q = true → ∀ o ∈ F.take j, ¬ sub o b) ∧ (q = false → ∃ o ∈ F, sub o b))) (fun _ jv _ => F.length - (intOf jv).toNat)
      case atStart => exact ⟨0, true, by omega, rfl, rfl, Below.refl _ _, (fun _ o ho => by simp at ho), (fun h => by cases h)⟩
      case round =>
        obtain ⟨j, q, hj, rfl, rfl, hB, hjq⟩ := hrel
        obtain ⟨wz, hwz⟩ : ∃ wz, wz = wr := ⟨_, rfl⟩
        subst hwz
        have HB := hid hB
        clear hB
        cases q with
        | false =>
          have hg2 := hid (hkey.out (.inr (.inr (hjq.out.2 rfl))))
          by_cases hjl : (j : Int) < F.length
          · as_aux_lemma =>
              go_wp2_with fail
              go_roundw
              case rel => exact ⟨b + 1, G, by omega, by omega, by go_num, HGw6.out.below HB.out, HB6o.out.trans (HB.out.mono HB6o.out.size), hg2.out⟩
              case measure => simp [intOf]; omega
          · as_aux_lemma =>
              go_wp2_with fail
              go_roundw
              case rel => exact ⟨b + 1, G, by omega, by omega, by go_num, HGw6.out.below HB.out, HB6o.out.trans (HB.out.mono HB6o.out.size), hg2.out⟩
              case measure => simp [intOf]; omega
        | true =>
          by_cases hjl : j < F.length
          · have hjl' : (j : Int) < F.length := by omega
            have hsub := hid (show sub F[j] b → ∃ o ∈ F, sub o b from fun h => ⟨_, List.getElem_mem hjl, h⟩)
            have hsub2 := hid (show ¬ sub F[j] b → ∀ o ∈ F.take (j + 1), ¬ sub o b from fun h o ho => by
              rw [List.take_add_one, List.getElem?_eq_getElem hjl] at ho
              rcases List.mem_append.1 ho with ho | ho
              · exact hjq.out.1 rfl o ho
              · simp at ho; subst ho; exact h)
            have ho64 := two64 (show N ≤ 64 by omega) ((hR.out.mem F[j]).1 (List.getElem_mem hjl)).1.1
            have hws := hid (without_sub (o := F[j]) (w := b) ho64)
            have HRq := hid (HRw6.out.below HB.out)
            obtain ⟨Ao9, co9, eo, _, _, hos⟩ := HRq.out.slr
            injection eo with e1 _ e2
            subst e1 e2
            obtain ⟨bo, oo, Ai, ci, rfl, hbo, g0, hi1, hi2, his⟩ := hos.list (k := j) (by rw [List.length_map]; exact hjl)
            rw [List.getElem_map] at g0 hi1 his
            have hil := listN_len F[j]
            have HWo := hid (without_r Ai A5 ci c5 (listN F[j]) s wz hi1 (by omega) hi2 (by unfold maxLen; omega) his ((HS6.out.below HB.out).more HB.out.size))
            rw [← hsb.out] at hws
            clear hos his hi1 hi2 ho64
            generalize listN F[j] = lo at *
            by_cases hsu : sub F[j] b
            · have hnil := hws.out.2 hsu
              rw [hnil] at HWo
              have hne := hid (hsub.out hsu)
              have HSU := hid hsu
              clear hsu
              as_aux_lemma =>
                go_wp2_with fail
                refine HWo.out.mono ?_
                rintro e w8 ⟨A8, c8, rfl, -, hB8⟩
                have HB8 := hid (HB.out.trans (hB8.mono HB.out.size))
                clear hB8
                go_wp2_with fail
                go_roundw
                case rel => exact ⟨j + 1, false, by omega, by go_num, rfl, HB8.out, (fun h => by cases h), (fun _ => hne.out)⟩
                case measure => simp [intOf]; omega
            · have hnn : withoutN lo s ≠ [] := fun h => hsu (hws.out.1 h)
              have hpos : 0 < (withoutN lo s).length := List.length_pos_iff.2 hnn
              have hpos' : (0 : Int) < ((withoutN lo s).length : Nat) := by omega
              have hne := hid (hsub2.out hsu)
              have HSU := hid hsu
              clear hsu hnn
              generalize withoutN lo s = wl at *
              as_aux_lemma =>
                go_wp2_with fail
                refine HWo.out.mono ?_
                rintro e w8 ⟨A8, c8, rfl, -, hB8⟩
                have HB8 := hid (HB.out.trans (hB8.mono HB.out.size))
                clear hB8
                go_wp2_with fail
                go_roundw
                case rel => exact ⟨j + 1, true, by omega, by go_num, rfl, HB8.out, (fun _ => hne.out), (fun h => by cases h)⟩
                case measure => simp [intOf]; omega
          · obtain rfl : j = F.length := by omega
            have hns := hid (show ∀ o ∈ F, ¬ sub o b from fun o ho => hjq.out.1 rfl o (by rw [List.take_length]; exact ho))
            have hGm := hid (fun x hx => (hG.out.mem x).1 hx)
            have hbl2 := hid hb64.out
            clear hjq hkey HRw6
            go_upto_region 20 with fail
            go_loopw [11] (fun av wq => ∃ at_ : Nat, at_ ≤ G.length ∧ av = .int .i64 at_ ∧ Below wz.heap.size wz wq ∧ Hid (∀ i (_ : i < at_) (hg : i < G.length), cmpL (listN G[i]) (listN b) < 0)) (fun av _ => G.length - (intOf av).toNat)
            case atStart => exact ⟨0, by omega, rfl, Below.refl _ _, fun i hi => absurd hi (by omega)⟩
            case round =>
              obtain ⟨at_, hat, rfl, hB4, hlo⟩ := hrel
              have HB4 := hid (HB.out.trans (hB4.mono HB.out.size))
              have hB4z := hid hB4
              clear hB4
              have HGq := hid (HGw6.out.below HB4.out)
              have HSq := hid ((HS6.out.below HB4.out).more HB4.out.size)
              by_cases hag : at_ < G.length
              · have hag' : (at_ : Int) < G.length := by omega
                obtain ⟨gl, hgl⟩ : ∃ gl, gl = G.length - 1 := ⟨_, rfl⟩
                have hwm : wrap64 ((G.length : Int) - 1) = (gl : Int) := by rw [wrap64_in _ (by omega)]; omega
                have hwm2 : IntKind.i64.wrap ((G.length : Int) - 1) = (gl : Int) := by rw [i64_in _ (by omega)]; omega
                have hmn : ¬ ((gl : Int) < (at_ : Int)) := by omega
                have hmi : min (at_ : Int) (gl : Int) = at_ := by omega
                have hmf : (if (gl : Int) < (at_ : Int) then (gl : Int) else (at_ : Int)) = at_ := if_neg hmn
                obtain ⟨Af9, cf9, ef, _, _, hfs⟩ := HGq.out.slr
                injection ef with e1 _ e2
                subst e1 e2
                obtain ⟨bo, oo, Ai, ci, rfl, hbo, g0, hi1, hi2, his⟩ := hfs.list (k := at_) (by rw [List.length_map]; exact hag)
                rw [List.getElem_map] at g0 hi1 his
                have hil := listN_len G[at_]
                have hBf := hid (before_r Ai A5 ci c5 (listN G[at_]) s wr (by unfold maxLen; omega) (by unfold maxLen; omega) his HSq.out)
                rw [beforeN_cmp (listN G[at_]) s (by rw [HLEN.out]; exact (hGm.out _ (List.getElem_mem hag)).2.1)] at hBf
                have hnext := hid (show cmpL (listN G[at_]) s < 0 → ∀ i (_ : i < at_ + 1) (hg : i < G.length), cmpL (listN G[i]) (listN b) < 0 from fun hh i hi hg => by
                  by_cases he : i = at_
                  · subst he; rw [← hsb.out]; exact hh
                  · exact hlo.out i (by omega) hg)
                have hput := hid (show ¬ cmpL (listN G[at_]) s < 0 → FoundW E N (k + 1) (b + 1) F (G.take at_ ++ [b] ++ G.drop at_) from fun hh => hG.out.put hb64.out (by rw [← hsb.out]; exact HLEN.out) hcl hns.out hat (fun i hi => hlo.out i hi (by omega)) (fun hi => by rw [← hsb.out]; exact hh))
                clear hfs his hi1 hi2 hgl
                generalize listN G[at_] = lg at *
                by_cases hcm : cmpL lg s < 0
                · rw [decide_eq_true hcm] at hBf
                  have hn9 := hid (hnext.out hcm)
                  clear hcm hput
                  as_aux_lemma =>
                    go_wp2_with fail
                    refine hBf.out.mono ?_
                    rintro e w8 ⟨rfl, hB8⟩
                    have HB8 := hid (hB4z.out.trans (hB8.mono hB4z.out.size))
                    clear hB8
                    go_wp2_with fail
                    go_roundw
                    case rel => exact ⟨at_ + 1, by omega, by go_num, HB8.out, hn9.out⟩
                    case measure => simp [intOf]; omega
                · rw [decide_eq_false hcm] at hBf
                  have hP9 := hid (hput.out hcm)
                  clear hcm hnext hput
                  go_upto_region 22 with (go_at_call 71; refine hBf.out.mono ?_; rintro e w8 ⟨rfl, hB8⟩)
                  have HB8 := hid (HB4.out.trans (hB8.mono HB4.out.size))
                  have HSP := hid (HSq.out.below hB8)
                  clear hB8 hBf hwm hwm2 hmn hmi hmf g0
                  as_aux_lemma =>
                    have HG8 := hid (HGw6.out.below HB8.out)
                    obtain ⟨Hf, Af8, cf8, ef8, hfl, hfo, hfL⟩ := HG8.out.ex
                    injection ef8 with e1 _ e2
                    subst e1 e2
                    obtain ⟨Af7, cf7, ef7, hq1, hq2, hfs⟩ := hfo.slr (fun _ _ => trivial)
                    rw [hfl] at ef7
                    injection ef7 with e1 _ e2
                    subst e1 e2
                    obtain ⟨HD, hHD⟩ : ∃ HD, HD = Hf.drop at_ := ⟨_, rfl⟩
                    obtain ⟨HT, hHT⟩ : ∃ HT, HT = Hf.take at_ := ⟨_, rfl⟩
                    have hdl := hid (show HD.length = G.length - at_ by rw [hHD, List.length_drop, hfl])
                    have htl := hid (show HT.length = at_ by rw [hHT, List.length_take]; omega)
                    have SD := hid (show SlR w8 w8.heap.size (some ⟨bo, oo + at_, none⟩) HD from by rw [hHD]; exact (by have := hfs.dropK at_; rwa [show Rep.size Hd = 1 from rfl, Nat.mul_one] at this))
                    have ST := hid (show SlR w8 w8.heap.size (some ⟨bo, oo, none⟩) HT from by rw [hHT]; exact hfs.takeK at_)
                    have HHD := hid hHD
                    have HHT := hid hHT
                    clear hHD hHT
                    have HFL := hid hfL
                    have hb8 := hid (show w1.heap.size ≤ w8.heap.size by have := (HB6w.out.trans (HB8.out.mono HB6w.out.size)).size; omega)
                    have hown1 := hid (show hdRK.Own (w8.alloc (Obj.cells #[] 25)) w8.heap.size (.slice (some ⟨w8.heap.size, 0, none⟩) 0 0) [] from RK.Own.fresh (l := []) (Blk.new w8 _ _) (Nat.le_refl _) (by simp))
                    have hl1 := hid (show ([] : List Hd).length + HD.length ≤ 100000000 by rw [hdl.out]; simp <;> omega)
                    have hG1 := hid (show G.length ≤ 16384 by omega)
                    clear hfo hfs hfL HG8
                    go_upto_region 23 with (at_builtin; refine hdRK.appL _ rfl (.tmp 80) (.tmp 83) rfl rfl hown1.out (ys := HD) (c := cf - at_) (by rw [hdl.out]; rfl) (SD.out.alloc (Nat.le_refl _) _) hl1.out (by simp) ?_; intro A1r c1r wa hoa hga)
                    simp only [List.length_nil, Nat.zero_add, List.nil_append] at hoa ⊢
                    have Ba := hid (show Below w8.heap.size w8 wa from ((Below.refl _ w8).alloc (Nat.le_refl _) _).grown hga (by simp) (fun g hg => (own_blk hown1.out g hg).1))
                    have HO1 := hid hoa
                    have STa := hid ((ST.out.below Ba.out).more Ba.out.size)
                    have hown2 := hid (show hdRK.Own (wa.alloc (Obj.cells #[] 25)) wa.heap.size (.slice (some ⟨wa.heap.size, 0, none⟩) 0 0) [] from RK.Own.fresh (l := []) (Blk.new wa _ _) (Nat.le_refl _) (by simp))
                    have hl2 := hid (show ([] : List Hd).length + HT.length ≤ 100000000 by rw [htl.out]; simp <;> omega)
                    clear hoa hga hown1 hl1
                    go_wp2_with (first | (at_builtin; refine hdRK.appL _ rfl (.tmp 85) (.tmp 88) rfl rfl hown2.out (ys := HT) (c := cf) (by rw [htl.out]; rfl) (STa.out.alloc (Nat.le_refl _) _) hl2.out (by simp) ?_; intro A2r c2r wb hob hgb; simp only [List.length_nil, Nat.zero_add, List.nil_append] at hob ⊢; have Bb := hid (show Below wa.heap.size wa wb from ((Below.refl _ wa).alloc (Nat.le_refl _) _).grown hgb (by simp) (fun g hg => (own_blk hown2.out g hg).1)); have HO2 := hid hob; clear hob hgb; have SG := hid (hdRK.blk (l := [(⟨A5, s.length, c5⟩ : Hd)]) (Blk.new wb 25 #[.slice A5 s.length c5]) (fun _ _ => trivial)); have hl3 := hid (show HT.length + ([(⟨A5, s.length, c5⟩ : Hd)] : List Hd).length ≤ 100000000 by rw [htl.out]; simp <;> omega); have hb3 := hid (show wa.heap.size ≤ (wb.alloc (Obj.cells #[.slice A5 s.length c5] 25)).heap.size by have h1 := Bb.out.size; simp <;> omega)) | (at_builtin; refine hdRK.appL _ rfl (.tmp 89) (.tmp 91) rfl rfl (HO2.out.alloc _) (ys := [(⟨A5, s.length, c5⟩ : Hd)]) (c := 1) rfl SG.out hl3.out hb3.out ?_; intro A3r c3r wc9 hoc hgc; simp only [List.length_singleton] at hoc ⊢; have Bc := hid (show Below wa.heap.size wa wc9 from (Bb.out.alloc Bb.out.size _).grown hgc hb3.out (fun g hg => (own_blk HO2.out g hg).1)); have HO3 := hid hoc; have HO1c := hid (HO1.out.below Bc.out); obtain ⟨Az, cz, ez, hz1, hz2, hzs⟩ := HO1c.out.slr (fun _ _ => trivial); injection ez with ez1 _ ez2; subst ez1 ez2; have HZS := hid hzs; have hl4 := hid (show (HT ++ [(⟨A5, s.length, c5⟩ : Hd)]).length + HD.length ≤ 100000000 by rw [List.length_append, htl.out, hdl.out]; simp <;> omega); clear hoc hgc hzs) | (at_builtin; refine hdRK.appL _ rfl (.tmp 92) (.tmp 93) rfl rfl HO3.out (ys := HD) (c := c1r) rfl HZS.out hl4.out Bc.out.size ?_; intro A4r c4r wd9 hod hgd; have Bd := hid (show Below wa.heap.size wa wd9 from Bc.out.grown hgd Bc.out.size (fun g hg => (own_blk HO3.out g hg).1)); have HO4 := hid hod; clear hod hgd))
                    have Bd8 := hid (show Below w8.heap.size w8 wd9 from Ba.out.trans (Bd.out.mono Ba.out.size))
                    have Bd6 := hid (show Below w6.heap.size w6 wd9 from HB8.out.trans (Bd8.out.mono HB8.out.size))
                    have hlenG := hid (show (G.take at_ ++ [b] ++ G.drop at_).length = HT.length + 1 + HD.length by rw [htl.out, hdl.out]; simp <;> omega)
                    have K8 := hid (HFL.out.kept (KT.of_below Bd8.out))
                    have LIE := hid (show Lies wd9 w1.heap.size (HT ++ [(⟨A5, s.length, c5⟩ : Hd)] ++ HD) ((G.take at_ ++ [b] ++ G.drop at_).map listN) by
                      rw [List.map_append, List.map_append, List.map_take, List.map_drop, HHT.out, HHD.out]
                      have h1 := Lies.one (HO6.out.below Bd6.out) hLI.out
                      rw [hsb.out] at h1
                      have e1 : (⟨A5, s.length, c5⟩ : Hd) = ⟨A5, (listN b).length, c5⟩ := by rw [hsb.out]
                      rw [e1]
                      exact ((K8.out.takeK at_).app h1).app (K8.out.dropK at_))
                    have hlH := hid (show (HT ++ [(⟨A5, s.length, c5⟩ : Hd)]).length + HD.length = HT.length + 1 + HD.length by rw [List.length_append, List.length_singleton])
                    have RW9 := hid (show Rw wd9 w1.heap.size (.slice A4r (HT.length + 1 + HD.length) c4r) (G.take at_ ++ [b] ++ G.drop at_) from ⟨HT ++ [(⟨A5, s.length, c5⟩ : Hd)] ++ HD, A4r, c4r, by rw [hlenG.out], by rw [hlenG.out, List.length_append]; exact hlH.out, by
                      rw [hlenG.out, ← hlH.out]
                      exact HO4.out.base_ (by have h1 := hb8.out; have h2 := Ba.out.size; omega), LIE.out⟩)
                    go_roundw
                    case rel => exact ⟨b + 1, G.take at_ ++ [b] ++ G.drop at_, by omega, by omega, by go_num, RW9.out, HB6o.out.trans (Bd6.out.mono HB6o.out.size), hP9.out⟩
                    case measure => simp [intOf]; omega
              · obtain rfl : at_ = G.length := by omega
                have hP9 := hid (show FoundW E N (k + 1) (b + 1) F (G.take G.length ++ [b] ++ G.drop G.length) from hG.out.put hb64.out (by rw [← hsb.out]; exact HLEN.out) hcl hns.out hat (fun i hi => hlo.out i hi (by omega)) (fun hi => absurd hi (by omega)))
                have hag2 : ¬ ((G.length : Int) < G.length) := by omega
                obtain ⟨w8, hw8⟩ : ∃ w8, w8 = wr := ⟨_, rfl⟩
                subst hw8
                have HB8 := HB4
                have HSP := HSq
                obtain ⟨Hx, Ax, cx, ex, hxl, hxo, -⟩ := HGq.out.ex
                injection ex with e1 _ e2
                subst e1 e2
                rcases hxo.2 with ⟨hv, hn⟩ | ⟨g, cap, cur, hv, hgb, -⟩
                · injection hv with e1 e2 e3
                  subst e1 e3
                  obtain rfl : G = [] := List.eq_nil_of_length_eq_zero e2
                  clear hxo hn hxl
                  as_aux_lemma =>
                    have HG8 := hid (HGw6.out.below HB8.out)
                    obtain ⟨Hf, Af8, cf8, ef8, hfl, hfo, hfL⟩ := HG8.out.ex
                    injection ef8 with e1 _ e2
                    subst e1 e2
                    obtain ⟨Af7, cf7, ef7, hq1, hq2, hfs⟩ := hfo.slr (fun _ _ => trivial)
                    rw [hfl] at ef7
                    injection ef7 with e1 _ e2
                    subst e1 e2
                    obtain ⟨HD, hHD⟩ : ∃ HD, HD = Hf.drop 0 := ⟨_, rfl⟩
                    obtain ⟨HT, hHT⟩ : ∃ HT, HT = Hf.take 0 := ⟨_, rfl⟩
                    have hdl := hid (show HD.length = ([] : List Nat).length - 0 by rw [hHD, List.length_drop, hfl])
                    have htl := hid (show HT.length = 0 by rw [hHT, List.length_take]; omega)
                    have SD := hid (show SlR w8 w8.heap.size none HD from by rw [hHD]; exact (by rw [List.eq_nil_of_length_eq_zero (show Hf.length = 0 from hfl)]; exact SlR.nil))
                    have ST := hid (show SlR w8 w8.heap.size none HT from by rw [hHT]; exact (by rw [List.eq_nil_of_length_eq_zero (show Hf.length = 0 from hfl)]; exact SlR.nil))
                    have HHD := hid hHD
                    have HHT := hid hHT
                    clear hHD hHT
                    have HFL := hid hfL
                    have hb8 := hid (show w1.heap.size ≤ w8.heap.size by have := (HB6w.out.trans (HB8.out.mono HB6w.out.size)).size; omega)
                    have hown1 := hid (show hdRK.Own (w8.alloc (Obj.cells #[] 25)) w8.heap.size (.slice (some ⟨w8.heap.size, 0, none⟩) 0 0) [] from RK.Own.fresh (l := []) (Blk.new w8 _ _) (Nat.le_refl _) (by simp))
                    have hl1 := hid (show ([] : List Hd).length + HD.length ≤ 100000000 by rw [hdl.out]; simp <;> omega)
                    have hG1 := hid (show ([] : List Nat).length ≤ 16384 by omega)
                    clear hfo hfs hfL HG8
                    go_upto_region 23 with (at_builtin; refine hdRK.appL _ rfl (.tmp 80) (.tmp 83) rfl rfl hown1.out (ys := HD) (c := 0) (by rw [hdl.out]; rfl) (SD.out.alloc (Nat.le_refl _) _) hl1.out (by simp) ?_; intro A1r c1r wa hoa hga)
                    simp only [List.length_nil, Nat.zero_add, List.nil_append] at hoa ⊢
                    have Ba := hid (show Below w8.heap.size w8 wa from ((Below.refl _ w8).alloc (Nat.le_refl _) _).grown hga (by simp) (fun g hg => (own_blk hown1.out g hg).1))
                    have HO1 := hid hoa
                    have STa := hid ((ST.out.below Ba.out).more Ba.out.size)
                    have hown2 := hid (show hdRK.Own (wa.alloc (Obj.cells #[] 25)) wa.heap.size (.slice (some ⟨wa.heap.size, 0, none⟩) 0 0) [] from RK.Own.fresh (l := []) (Blk.new wa _ _) (Nat.le_refl _) (by simp))
                    have hl2 := hid (show ([] : List Hd).length + HT.length ≤ 100000000 by rw [htl.out]; simp <;> omega)
                    clear hoa hga hown1 hl1
                    go_wp2_with (first | (at_builtin; refine hdRK.appL _ rfl (.tmp 85) (.tmp 88) rfl rfl hown2.out (ys := HT) (c := 0) (by rw [htl.out]; rfl) (STa.out.alloc (Nat.le_refl _) _) hl2.out (by simp) ?_; intro A2r c2r wb hob hgb; simp only [List.length_nil, Nat.zero_add, List.nil_append] at hob ⊢; have Bb := hid (show Below wa.heap.size wa wb from ((Below.refl _ wa).alloc (Nat.le_refl _) _).grown hgb (by simp) (fun g hg => (own_blk hown2.out g hg).1)); have HO2 := hid hob; clear hob hgb; have SG := hid (hdRK.blk (l := [(⟨A5, s.length, c5⟩ : Hd)]) (Blk.new wb 25 #[.slice A5 s.length c5]) (fun _ _ => trivial)); have hl3 := hid (show HT.length + ([(⟨A5, s.length, c5⟩ : Hd)] : List Hd).length ≤ 100000000 by rw [htl.out]; simp <;> omega); have hb3 := hid (show wa.heap.size ≤ (wb.alloc (Obj.cells #[.slice A5 s.length c5] 25)).heap.size by have h1 := Bb.out.size; simp <;> omega)) | (at_builtin; refine hdRK.appL _ rfl (.tmp 89) (.tmp 91) rfl rfl (HO2.out.alloc _) (ys := [(⟨A5, s.length, c5⟩ : Hd)]) (c := 1) rfl SG.out hl3.out hb3.out ?_; intro A3r c3r wc9 hoc hgc; simp only [List.length_singleton] at hoc ⊢; have Bc := hid (show Below wa.heap.size wa wc9 from (Bb.out.alloc Bb.out.size _).grown hgc hb3.out (fun g hg => (own_blk HO2.out g hg).1)); have HO3 := hid hoc; have HO1c := hid (HO1.out.below Bc.out); obtain ⟨Az, cz, ez, hz1, hz2, hzs⟩ := HO1c.out.slr (fun _ _ => trivial); injection ez with ez1 _ ez2; subst ez1 ez2; have HZS := hid hzs; have hl4 := hid (show (HT ++ [(⟨A5, s.length, c5⟩ : Hd)]).length + HD.length ≤ 100000000 by rw [List.length_append, htl.out, hdl.out]; simp <;> omega); clear hoc hgc hzs) | (at_builtin; refine hdRK.appL _ rfl (.tmp 92) (.tmp 93) rfl rfl HO3.out (ys := HD) (c := c1r) rfl HZS.out hl4.out Bc.out.size ?_; intro A4r c4r wd9 hod hgd; have Bd := hid (show Below wa.heap.size wa wd9 from Bc.out.grown hgd Bc.out.size (fun g hg => (own_blk HO3.out g hg).1)); have HO4 := hid hod; clear hod hgd))
                    have Bd8 := hid (show Below w8.heap.size w8 wd9 from Ba.out.trans (Bd.out.mono Ba.out.size))
                    have Bd6 := hid (show Below w6.heap.size w6 wd9 from HB8.out.trans (Bd8.out.mono HB8.out.size))
                    have hlenG := hid (show (([] : List Nat).take 0 ++ [b] ++ ([] : List Nat).drop 0).length = HT.length + 1 + HD.length by rw [htl.out, hdl.out]; simp <;> omega)
                    have K8 := hid (HFL.out.kept (KT.of_below Bd8.out))
                    have LIE := hid (show Lies wd9 w1.heap.size (HT ++ [(⟨A5, s.length, c5⟩ : Hd)] ++ HD) ((([] : List Nat).take 0 ++ [b] ++ ([] : List Nat).drop 0).map listN) by
                      rw [List.map_append, List.map_append, List.map_take, List.map_drop, HHT.out, HHD.out]
                      have h1 := Lies.one (HO6.out.below Bd6.out) hLI.out
                      rw [hsb.out] at h1
                      have e1 : (⟨A5, s.length, c5⟩ : Hd) = ⟨A5, (listN b).length, c5⟩ := by rw [hsb.out]
                      rw [e1]
                      exact ((K8.out.takeK 0).app h1).app (K8.out.dropK 0))
                    have hlH := hid (show (HT ++ [(⟨A5, s.length, c5⟩ : Hd)]).length + HD.length = HT.length + 1 + HD.length by rw [List.length_append, List.length_singleton])
                    have RW9 := hid (show Rw wd9 w1.heap.size (.slice A4r (HT.length + 1 + HD.length) c4r) (([] : List Nat).take 0 ++ [b] ++ ([] : List Nat).drop 0) from ⟨HT ++ [(⟨A5, s.length, c5⟩ : Hd)] ++ HD, A4r, c4r, by rw [hlenG.out], by rw [hlenG.out, List.length_append]; exact hlH.out, by
                      rw [hlenG.out, ← hlH.out]
                      exact HO4.out.base_ (by have h1 := hb8.out; have h2 := Ba.out.size; omega), LIE.out⟩)
                    go_roundw
                    case rel => exact ⟨b + 1, ([] : List Nat).take 0 ++ [b] ++ ([] : List Nat).drop 0, by omega, by omega, by go_num, RW9.out, HB6o.out.trans (Bd6.out.mono HB6o.out.size), hP9.out⟩
                    case measure => simp [intOf]; omega
                · injection hv with e1 e2 e3
                  subst e1 e3
                  clear hxo hgb e2 hxl
                  as_aux_lemma =>
                    have HG8 := hid (HGw6.out.below HB8.out)
                    obtain ⟨Hf, Af8, cf8, ef8, hfl, hfo, hfL⟩ := HG8.out.ex
                    injection ef8 with e1 _ e2
                    subst e1 e2
                    obtain ⟨Af7, cf7, ef7, hq1, hq2, hfs⟩ := hfo.slr (fun _ _ => trivial)
                    rw [hfl] at ef7
                    injection ef7 with e1 _ e2
                    subst e1 e2
                    obtain ⟨HD, hHD⟩ : ∃ HD, HD = Hf.drop G.length := ⟨_, rfl⟩
                    obtain ⟨HT, hHT⟩ : ∃ HT, HT = Hf.take G.length := ⟨_, rfl⟩
                    have hdl := hid (show HD.length = G.length - G.length by rw [hHD, List.length_drop, hfl])
                    have htl := hid (show HT.length = G.length by rw [hHT, List.length_take]; omega)
                    have SD := hid (show SlR w8 w8.heap.size (if cf = G.length then some ⟨g, 0, none⟩ else some ⟨g, G.length, none⟩) HD from by rw [hHD]; exact (by rw [List.drop_of_length_le (by omega)]; exact SlR.nil))
                    have ST := hid (show SlR w8 w8.heap.size (some ⟨g, 0, none⟩) HT from by rw [hHT]; exact hfs.takeK G.length)
                    have HHD := hid hHD
                    have HHT := hid hHT
                    clear hHD hHT
                    have HFL := hid hfL
                    have hb8 := hid (show w1.heap.size ≤ w8.heap.size by have := (HB6w.out.trans (HB8.out.mono HB6w.out.size)).size; omega)
                    have hown1 := hid (show hdRK.Own (w8.alloc (Obj.cells #[] 25)) w8.heap.size (.slice (some ⟨w8.heap.size, 0, none⟩) 0 0) [] from RK.Own.fresh (l := []) (Blk.new w8 _ _) (Nat.le_refl _) (by simp))
                    have hl1 := hid (show ([] : List Hd).length + HD.length ≤ 100000000 by rw [hdl.out]; simp <;> omega)
                    have hG1 := hid (show G.length ≤ 16384 by omega)
                    clear hfo hfs hfL HG8
                    go_upto_region 23 with (at_builtin; refine hdRK.appL _ rfl (.tmp 80) (.tmp 83) rfl rfl hown1.out (ys := HD) (c := cf - G.length) (by rw [hdl.out, Nat.sub_self]; rfl) (SD.out.alloc (Nat.le_refl _) _) hl1.out (by simp) ?_; intro A1r c1r wa hoa hga)
                    simp only [List.length_nil, Nat.zero_add, List.nil_append] at hoa ⊢
                    have Ba := hid (show Below w8.heap.size w8 wa from ((Below.refl _ w8).alloc (Nat.le_refl _) _).grown hga (by simp) (fun g hg => (own_blk hown1.out g hg).1))
                    have HO1 := hid hoa
                    have STa := hid ((ST.out.below Ba.out).more Ba.out.size)
                    have hown2 := hid (show hdRK.Own (wa.alloc (Obj.cells #[] 25)) wa.heap.size (.slice (some ⟨wa.heap.size, 0, none⟩) 0 0) [] from RK.Own.fresh (l := []) (Blk.new wa _ _) (Nat.le_refl _) (by simp))
                    have hl2 := hid (show ([] : List Hd).length + HT.length ≤ 100000000 by rw [htl.out]; simp <;> omega)
                    clear hoa hga hown1 hl1
                    go_wp2_with (first | (at_builtin; refine hdRK.appL _ rfl (.tmp 85) (.tmp 88) rfl rfl hown2.out (ys := HT) (c := cf) (by rw [htl.out]; rfl) (STa.out.alloc (Nat.le_refl _) _) hl2.out (by simp) ?_; intro A2r c2r wb hob hgb; simp only [List.length_nil, Nat.zero_add, List.nil_append] at hob ⊢; have Bb := hid (show Below wa.heap.size wa wb from ((Below.refl _ wa).alloc (Nat.le_refl _) _).grown hgb (by simp) (fun g hg => (own_blk hown2.out g hg).1)); have HO2 := hid hob; clear hob hgb; have SG := hid (hdRK.blk (l := [(⟨A5, s.length, c5⟩ : Hd)]) (Blk.new wb 25 #[.slice A5 s.length c5]) (fun _ _ => trivial)); have hl3 := hid (show HT.length + ([(⟨A5, s.length, c5⟩ : Hd)] : List Hd).length ≤ 100000000 by rw [htl.out]; simp <;> omega); have hb3 := hid (show wa.heap.size ≤ (wb.alloc (Obj.cells #[.slice A5 s.length c5] 25)).heap.size by have h1 := Bb.out.size; simp <;> omega)) | (at_builtin; refine hdRK.appL _ rfl (.tmp 89) (.tmp 91) rfl rfl (HO2.out.alloc _) (ys := [(⟨A5, s.length, c5⟩ : Hd)]) (c := 1) rfl SG.out hl3.out hb3.out ?_; intro A3r c3r wc9 hoc hgc; simp only [List.length_singleton] at hoc ⊢; have Bc := hid (show Below wa.heap.size wa wc9 from (Bb.out.alloc Bb.out.size _).grown hgc hb3.out (fun g hg => (own_blk HO2.out g hg).1)); have HO3 := hid hoc; have HO1c := hid (HO1.out.below Bc.out); obtain ⟨Az, cz, ez, hz1, hz2, hzs⟩ := HO1c.out.slr (fun _ _ => trivial); injection ez with ez1 _ ez2; subst ez1 ez2; have HZS := hid hzs; have hl4 := hid (show (HT ++ [(⟨A5, s.length, c5⟩ : Hd)]).length + HD.length ≤ 100000000 by rw [List.length_append, htl.out, hdl.out]; simp <;> omega); clear hoc hgc hzs) | (at_builtin; refine hdRK.appL _ rfl (.tmp 92) (.tmp 93) rfl rfl HO3.out (ys := HD) (c := c1r) rfl HZS.out hl4.out Bc.out.size ?_; intro A4r c4r wd9 hod hgd; have Bd := hid (show Below wa.heap.size wa wd9 from Bc.out.grown hgd Bc.out.size (fun g hg => (own_blk HO3.out g hg).1)); have HO4 := hid hod; clear hod hgd))
                    have Bd8 := hid (show Below w8.heap.size w8 wd9 from Ba.out.trans (Bd.out.mono Ba.out.size))
                    have Bd6 := hid (show Below w6.heap.size w6 wd9 from HB8.out.trans (Bd8.out.mono HB8.out.size))
                    have hlenG := hid (show (G.take G.length ++ [b] ++ G.drop G.length).length = HT.length + 1 + HD.length by rw [htl.out, hdl.out]; simp <;> omega)
                    have K8 := hid (HFL.out.kept (KT.of_below Bd8.out))
                    have LIE := hid (show Lies wd9 w1.heap.size (HT ++ [(⟨A5, s.length, c5⟩ : Hd)] ++ HD) ((G.take G.length ++ [b] ++ G.drop G.length).map listN) by
                      rw [List.map_append, List.map_append, List.map_take, List.map_drop, HHT.out, HHD.out]
                      have h1 := Lies.one (HO6.out.below Bd6.out) hLI.out
                      rw [hsb.out] at h1
                      have e1 : (⟨A5, s.length, c5⟩ : Hd) = ⟨A5, (listN b).length, c5⟩ := by rw [hsb.out]
                      rw [e1]
                      exact ((K8.out.takeK G.length).app h1).app (K8.out.dropK G.length))
                    have hlH := hid (show (HT ++ [(⟨A5, s.length, c5⟩ : Hd)]).length + HD.length = HT.length + 1 + HD.length by rw [List.length_append, List.length_singleton])
                    have RW9 := hid (show Rw wd9 w1.heap.size (.slice A4r (HT.length + 1 + HD.length) c4r) (G.take G.length ++ [b] ++ G.drop G.length) from ⟨HT ++ [(⟨A5, s.length, c5⟩ : Hd)] ++ HD, A4r, c4r, by rw [hlenG.out], by rw [hlenG.out, List.length_append]; exact hlH.out, by
                      rw [hlenG.out, ← hlH.out]
                      exact HO4.out.base_ (by have h1 := hb8.out; have h2 := Ba.out.size; omega), LIE.out⟩)
                    go_roundw
                    case rel => exact ⟨b + 1, G.take G.length ++ [b] ++ G.drop G.length, by omega, by omega, by go_num, RW9.out, HB6o.out.trans (Bd6.out.mono HB6o.out.size), hP9.out⟩
                    case measure => simp [intOf]; omega
end Go.Proofs.YteljfpcmpdpehaaGreatDoor
