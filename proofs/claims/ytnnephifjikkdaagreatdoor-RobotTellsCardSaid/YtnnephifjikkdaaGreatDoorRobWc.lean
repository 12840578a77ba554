
/- Robots: the reference's Hear (chapter 22). -/
import Derived.Test.YtnnephifjikkdaaGreatDoorRobWb
set_option linter.unusedSimpArgs false
set_option linter.unusedVariables false
namespace Go.Proofs.YtnnephifjikkdaaGreatDoor
open Go.RowKit Go.IntWalk

theorem add_at' (g o j : Nat) : (⟨g, o, none⟩ : Addr).add j = ⟨g, o + j, none⟩ := by unfold Addr.add; split <;> simp_all
set_option maxRecDepth 100000 in
set_option maxHeartbeats 4000000 in
theorem rfhear_any (W H D : Int) (Ak Ao : Option Addr) (ck co : Nat) (kind out : List Int) (c0 : Int) (Aq : Option Addr) (cq : Nat) (q : List Int) (Ac : Option Addr) (cc : Nat) (acts : List Int) (w : World) (h : RF W H D kind out) (hql : q.length ≤ 65536) (hal : acts.length ≤ 65536) (hk : SlR w w.heap.size Ak kind) (ho : SlR w w.heap.size Ao out) (hq : SlR w w.heap.size Aq q) (hac : SlR w w.heap.size Ac acts) :
    Calls Tryz.prog 39 #[.agg #[.int .i64 W, .int .i64 H, .int .i64 D, .slice Ak kind.length ck, .slice Ao out.length co], .agg #[.int .i64 c0, .slice Aq q.length cq], .slice Ac acts.length cc] w (RetHr w (hearL W H D kind out c0 q acts)) := by
  have hI := hid h
  have hints := hid hac.ints
  have hqi := hid hq.ints
  clear h
  have hb0 : Below w.heap.size w (((w.alloc (Obj.cells #[.int .i64 W, .int .i64 H, .int .i64 D, .slice Ak kind.length ck, .slice Ao out.length co] 24)).alloc (Obj.cells #[.int .i64 c0, .slice Aq q.length cq] 48)).alloc (Obj.cells #[.int .i64 0, .slice none 0 0] 48)) := by (repeat (first | exact Below.refl _ _ | assumption | refine below_drewN ?_ _ | refine Below.drew ?_ | refine Below.alloc ?_ (by (try simp); (try omega)) _ | refine Below.setCell ?_ (by (try simp); (try omega)) _))
  have bx : Blk (((w.alloc (Obj.cells #[.int .i64 W, .int .i64 H, .int .i64 D, .slice Ak kind.length ck, .slice Ao out.length co] 24)).alloc (Obj.cells #[.int .i64 c0, .slice Aq q.length cq] 48)).alloc (Obj.cells #[.int .i64 0, .slice none 0 0] 48)) w.heap.size 24 #[.int .i64 W, .int .i64 H, .int .i64 D, .slice Ak kind.length ck, .slice Ao out.length co] := ((Blk.new w _ _).alloc _).alloc _
  have bm : Blk (((w.alloc (Obj.cells #[.int .i64 W, .int .i64 H, .int .i64 D, .slice Ak kind.length ck, .slice Ao out.length co] 24)).alloc (Obj.cells #[.int .i64 c0, .slice Aq q.length cq] 48)).alloc (Obj.cells #[.int .i64 0, .slice none 0 0] 48)) (w.heap.size + 1) 48 #[.int .i64 c0, .slice Aq q.length cq] := (Blk.new_at (by simp)).alloc _
  have br : Blk (((w.alloc (Obj.cells #[.int .i64 W, .int .i64 H, .int .i64 D, .slice Ak kind.length ck, .slice Ao out.length co] 24)).alloc (Obj.cells #[.int .i64 c0, .slice Aq q.length cq] 48)).alloc (Obj.cells #[.int .i64 0, .slice none 0 0] 48)) (w.heap.size + 1 + 1) 48 #[.int .i64 0, .slice none 0 0] := Blk.new_at (by simp)
  have hz : (((w.alloc (Obj.cells #[.int .i64 W, .int .i64 H, .int .i64 D, .slice Ak kind.length ck, .slice Ao out.length co] 24)).alloc (Obj.cells #[.int .i64 c0, .slice Aq q.length cq] 48)).alloc (Obj.cells #[.int .i64 0, .slice none 0 0] 48)).heap.size = w.heap.size + 1 + 1 + 1 := by simp
  go_enter Tryz.func39, Tryz.ntmps39
  have hbq := hid (show Below w.heap.size w (((w.alloc (Obj.cells #[.int .i64 W, .int .i64 H, .int .i64 D, .slice Ak kind.length ck, .slice Ao out.length co] 24)).alloc (Obj.cells #[.int .i64 c0, .slice Aq q.length cq] 48)).alloc (Obj.cells #[.int .i64 c0, .slice Aq q.length cq] 48)) by (repeat (first | exact Below.refl _ _ | assumption | refine below_drewN ?_ _ | refine Below.drew ?_ | refine Below.alloc ?_ (by (try simp); (try omega)) _ | refine Below.setCell ?_ (by (try simp); (try omega)) _)))
  by_cases h4 : 4 < acts.length
  · have hcase := hid (show hearL W H D kind out c0 q acts = ((c0, q), 6) by simp [hearL, h4])
    have i4 : (4:Int) < acts.length := by omega
    clear bx bm br hb0
    go_wp2_with fail
    refine bodyPost_ret (v := .tuple #[.agg #[.int .i64 c0, .slice Aq q.length cq], .int .i64 6]) (by simp [results, Tryz.results39, go_sem]) rfl ?_
    exact retHr_of hcase.out rfl ((hq.below hbq.out).more hbq.out.size) hbq.out
  have i4 : ¬ (4:Int) < acts.length := by omega
  have Hx := hid bx
  have Hm := hid bm
  have Hr := hid br
  clear bx bm br
  go_wp2_with fail
  go_loop [8] (fun i => ∃ k : Nat, k ≤ acts.length ∧ i = .int .i64 k ∧ Hid (∀ x ∈ acts.take k, 0 ≤ x ∧ x < 10)) (fun i => acts.length - (intOf i).toNat)
  case atStart => exact ⟨0, by omega, rfl, by simp [Hid]⟩
  case round =>
    obtain ⟨k, hkq, rfl, hall⟩ := hrel
    by_cases hlt : k < acts.length
    · obtain ⟨b, off, rfl, hb, g1, _⟩ := (hac.below hb0).int hlt
      have hst := hid (show (0 ≤ acts[k] ∧ acts[k] < 10) → ∀ x ∈ acts.take (k + 1), 0 ≤ x ∧ x < 10 from fun h x hx => by
        rw [List.take_add_one, List.getElem?_eq_getElem hlt, List.mem_append] at hx
        rcases hx with hx | hx
        · exact hall.out x hx
        · simp at hx; subst hx; exact h)
      have hno := hid (show ¬ (0 ≤ acts[k] ∧ acts[k] < 10) → hearL W H D kind out c0 q acts = ((c0, q), 1) from fun h => by
        have : knownL acts = false := by
          cases hq9 : knownL acts with
          | false => rfl
          | true => exact absurd (knownL_iff.1 hq9 _ (List.getElem_mem hlt)) h
        simp [hearL, h4, this])
      have hlt' : (k : Int) < acts.length := by omega
      generalize acts[k] = a at *
      by_cases a1 : a < 0
      · have hcase := hid (hno.out (by omega))
        go_wp2_with fail
        refine bodyPost_ret (v := .tuple #[.agg #[.int .i64 c0, .slice Aq q.length cq], .int .i64 1]) (by simp [results, Tryz.results39, go_sem]) rfl ?_
        exact retHr_of hcase.out rfl ((hq.below hbq.out).more hbq.out.size) hbq.out
      · by_cases a2 : 10 ≤ a
        · have hcase := hid (hno.out (by omega))
          go_wp2_with fail
          refine bodyPost_ret (v := .tuple #[.agg #[.int .i64 c0, .slice Aq q.length cq], .int .i64 1]) (by simp [results, Tryz.results39, go_sem]) rfl ?_
          exact retHr_of hcase.out rfl ((hq.below hbq.out).more hbq.out.size) hbq.out
        · have hr := hid (hst.out (by omega))
          go_wp2_with fail
          go_round
          case rel => exact ⟨k + 1, by omega, by go_num, hr⟩
          case measure => simp [intOf]; omega
    · obtain rfl : k = acts.length := by omega
      rw [List.take_length] at hall
      have H5 := hid (knownL_iff.2 hall.out)
      go_upto_region 8 with fail
      have hS := hid (show HS w #[.int .i64 W, .int .i64 H, .int .i64 D, .slice Ak kind.length ck, .slice Ao out.length co] #[.int .i64 c0, .slice Aq q.length cq] _ from ⟨hb0, Hx.out, Hm.out, Hr.out⟩)
      clear Hx Hm Hr hb0
      generalize (((w.alloc (Obj.cells #[.int .i64 W, .int .i64 H, .int .i64 D, .slice Ak kind.length ck, .slice Ao out.length co] 24)).alloc (Obj.cells #[.int .i64 c0, .slice Aq q.length cq] 48)).alloc (Obj.cells #[.int .i64 0, .slice none 0 0] 48)) = w0 at hS hz ⊢
      have Hz := hid hz
      clear hz hbq
      go_cut [9] (fun s wx => HrX w #[.int .i64 W, .int .i64 H, .int .i64 D, .slice Ak kind.length ck, .slice Ao out.length co] #[.int .i64 c0, .slice Aq q.length cq] c0 acts s wx)
      case first =>
        have mm := hS.out.m.cell 0
        have ml := hS.out.m.lt
        have ml2 : w.heap.size < w0.heap.size := by omega
        simp at mm
        by_cases hne : acts = []
        · subst hne
          simp only [List.length_nil] at *
          have Z3 := hid (show w.heap.size + 1 + 1 < w0.heap.size by have := Hz.out; omega)
          have Z4 := hid (show w.heap.size + 1 + 1 < w0.heap.size + 1 by have := Hz.out; omega)
          have y4 := hid (show w0.heap.size + 1 = (w0.alloc (Obj.cells #[] 3)).heap.size by simp)
          go_region_law (refine step_appE _ (by rfl) (.tmp 35) (.tmp 36) (by rfl) _ _ _ (by rfl) (by rfl) ?_)
          all_goals
            go_wp2_with fail
            go_meet
            first
              | exact hrX_none ((hS.out.alloc _).alloc _).drew Z4.out (Blk.new_at y4.out).drew
              | exact hrX_none ((hS.out.alloc _).alloc _).drew Z3.out ((Blk.new _ _ _).alloc _).drew
        have hpos : 0 < acts.length := List.length_pos_iff.2 hne
        obtain ⟨ba, oa, rfl, hba, _, _⟩ := hac.int hpos
        have hcl : Hid (∀ W', Below w.heap.size w W' → ∀ (j : Nat) (u : Value), (acts.map (Value.int .i64))[j]? = some u → W'.cell? ((⟨ba, oa, none⟩ : Addr).add j) = some u) := hid (fun W' hW' j u hu => by
          rw [List.getElem?_map] at hu
          cases hj : acts[j]? with
          | none => rw [hj] at hu; cases hu
          | some y =>
            rw [hj] at hu
            obtain rfl : Value.int .i64 y = u := by simpa using hu
            obtain ⟨hlt, rfl⟩ := List.getElem?_eq_some_iff.1 hj
            rw [add_at']
            exact (hac.below hW').int_at hlt)
        clear hne
        have Z3 := hid (show w.heap.size + 1 + 1 < w0.heap.size by have := Hz.out; omega)
        have Z4 := hid (show w.heap.size + 1 + 1 < w0.heap.size + 1 by have := Hz.out; omega)
        have y4 := hid (show w0.heap.size + 1 = ((World.drew w0).alloc (Obj.cells #[] 3)).heap.size by simp)
        go_region_law (first | (refine step_appI _ (by rfl) (.tmp 35) (.tmp 36) (by rfl) w0.heap.size _ [] (by rfl) ?_ ⟨ba, oa, none⟩ cc acts (by rfl) ?_ hpos ?_ ?_ ?_; (refine ownE ?_ ?_; (first | exact Blk.new_at (by simp) | exact (Blk.new_at (by simp)).alloc _); (simp)); (first | exact hcl.out _ hS.out.drew.below | exact hcl.out _ (hS.out.drew.alloc _).below | exact hcl.out _ ((hS.out.drew.alloc _).alloc _).below); (focus (simp <;> omega)); (focus (simp <;> omega)); intro g cap w8 ho1 hgr hat hlt1; (first | (have hS8 := HS.grown (hS.out.drew.alloc _) hgr Z3.out) | (have hS8 := HS.grown ((hS.out.drew.alloc _).alloc _) hgr Z3.out) | (have hS8 := HS.grown ((hS.out.drew.alloc _).alloc _) hgr Z4.out)); have mm8 := hS8.m.cell 0; have mf8 := hS8.m.lt; simp at mm8; (first | (have q3 := ((Blk.new (World.drew w0) 48 #[.int .i64 0, .slice none 0 0]).alloc (Obj.cells #[] 3)).grown hgr (ne9a w0.heap.size); have qc0 := q3.cell 0; have qc1 := q3.cell 1; have qf0 := q3.frozen 0; have qf1 := q3.frozen 1; have ql := q3.lt; simp at qc0 qc1 qf0 qf1 ql) | (have q4 := (Blk.new_at (cs := #[.int .i64 0, .slice none 0 0]) (t := 48) y4.out).grown hgr (ne9b w0.heap.size); have qc0 := q4.cell 0; have qc1 := q4.cell 1; have qf0 := q4.frozen 0; have qf1 := q4.frozen 1; have ql := q4.lt; simp at qc0 qc1 qf0 qf1 ql) | skip)))
        all_goals
          go_wp2_with fail
          go_meet
          first
            | exact hrX_own hS8 Z3.out ho1 hints.out
            | exact hrX_box hS8 Z3.out ho1 hints.out Z3.out q3
            | exact hrX_box hS8 Z3.out ho1 hints.out Z4.out q4
      case rest =>
        obtain ⟨b, A', c', rfl, hX, hb9, hbn, hsx, hxx⟩ := hcut
        have HXX := hid hxx
        clear hxx
        clear hS
        obtain ⟨k0, k1, k2, k3, k4⟩ := blk5 hX.f
        obtain ⟨m0, m1⟩ := blk2 hX.m
        obtain ⟨t0, t1⟩ := blk2 hb9
        have z1 := hX.m.lt
        have z2 := hb9.lt
        have z3 := hX.r.lt
        have HX := hid hX
        have HB9 := hid hb9
        clear hX hb9
        go_wp2_with fail
        refine (rfright_any W H D Ak Ao ck co kind out c0 A' c' acts _ hI.out ((hk.below HX.out.below).more HX.out.below.size) ((ho.below HX.out.below).more HX.out.below.size) hsx (by unfold maxLen; omega)).mono ?_
        rintro e w9 ⟨rfl, hB9⟩
        have HX9 := hid (HX.out.step hB9)
        have HB10 := hid (HB9.out.below hB9 z2)
        have hsx9 := (hsx.below hB9).more hB9.size
        clear k0 k1 k2 k3 k4 m0 m1 t0 t1 z1 z2 z3 HX HB9 hsx hB9
        obtain ⟨m0, m1⟩ := blk2 HX9.out.m
        obtain ⟨t0, t1⟩ := blk2 HB10.out
        obtain ⟨r0, r1⟩ := blk2 HX9.out.r
        have f0 := HX9.out.r.frozen 0
        have f1 := HX9.out.r.frozen 1
        have z1 := HX9.out.m.lt
        have z2 := HB10.out.lt
        have z3 := HX9.out.r.lt
        have bB := HX9.out.below
        cases hrm : rightM W H D kind out c0 acts with
        | false =>
          have hcase := hid (show hearL W H D kind out c0 q acts = ((c0, q), 14) by simp [hearL, h4, H5.out, hrm])
          clear hrm
          go_wp2_with fail
          refine bodyPost_ret (v := .tuple #[.agg #[.int .i64 c0, .slice Aq q.length cq], .int .i64 14]) (by simp [results, Tryz.results39, go_sem, f0, f1, r0, r1, z3]) rfl ?_
          have hb2 := hid ((bB.setCell (p := ⟨w.heap.size + 1 + 1, 0, none⟩) (by simp; omega) (.int .i64 c0)).setCell (p := ⟨w.heap.size + 1 + 1, 1, none⟩) (by simp; omega) (.slice Aq q.length cq))
          exact retHr_of hcase.out rfl ((hq.below hb2.out).more hb2.out.size) hb2.out
        | true =>
          have hcase := hid (show hearL W H D kind out c0 q acts = ((c0, acts), 0) by simp [hearL, h4, H5.out, hrm])
          clear hrm
          go_wp2_with fail
          refine bodyPost_ret (v := .tuple #[.agg #[.int .i64 c0, .slice A' acts.length c'], .int .i64 0]) (by simp [results, Tryz.results39, go_sem, f0, f1, r0, r1, z3]) rfl ?_
          have hb2 := hid ((bB.setCell (p := ⟨w.heap.size + 1 + 1, 0, none⟩) (by simp; omega) (.int .i64 c0)).setCell (p := ⟨w.heap.size + 1 + 1, 1, none⟩) (by simp; omega) (.slice A' acts.length c'))
          refine retHr_of hcase.out rfl ?_ hb2.out
          by_cases he : acts = []
          · subst he; exact fun k x hx => by simp at hx
          · have := (hsx9.far (p := ⟨w.heap.size + 1 + 1, 0, none⟩) (fun a ha => (HXX.out he a ha).1) (.int .i64 c0)).far (p := ⟨w.heap.size + 1 + 1, 1, none⟩) (fun a ha => (HXX.out he a ha).1) (.slice A' acts.length c')
            simpa using this
end Go.Proofs.YtnnephifjikkdaaGreatDoor
