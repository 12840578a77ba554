
/- Robots: the reference's Did, where the act was the first (chapter 22). -/
import Derived.Test.YtnnephifjikkdaaGreatDoorRobWd
set_option linter.unusedSimpArgs false
set_option linter.unusedVariables false
namespace Go.Proofs.YtnnephifjikkdaaGreatDoor
open Go.RowKit Go.IntWalk

set_option maxRecDepth 100000 in
set_option maxHeartbeats 4000000 in
theorem rfdid_hit (W H D : Int) (Ak Ao : Option Addr) (ck co : Nat) (kind out : List Int) (c0 : Int) (Aq : Option Addr) (cq : Nat) (q1 : List Int) (act : Int) (w : World) (h : RF W H D kind out) (hc1 : q1.length + 1 ≤ cq) (hc2 : cq ≤ maxLen) (hql : q1.length + 1 ≤ 65536) (hk : SlR w w.heap.size Ak kind) (ho : SlR w w.heap.size Ao out) (hq : SlR w w.heap.size Aq (act :: q1)) (ha : 0 ≤ act ∧ act < 10) :
    Calls Tryz.prog 48 #[.agg #[.int .i64 W, .int .i64 H, .int .i64 D, .slice Ak kind.length ck, .slice Ao out.length co], .agg #[.int .i64 c0, .slice Aq (q1.length + 1) cq], .int .i64 act, .bool true] w (RetMr w (didC (nextL W H D kind out) c0 act, q1)) := by
  have hI := hid h
  have hints := hid (show ∀ x ∈ q1, I64 x from fun x hx => hq.ints x (by simp [hx]))
  clear h
  obtain ⟨bq, oq, rfl, _, g0, _⟩ := hq.int (k := 0) (by simp)
  clear g0
  have e1 : (act != act) = false := by simp
  have l1 : (((q1.length + 1 : Nat):Int) == 0) = false := by simp; omega
  have l2 : ((q1.length : Int) + 1 == 0) = false := by simp; omega
  have l3 : (0:Int) < (q1.length + 1 : Nat) := by omega
  have l4 : (0:Int) < (q1.length : Int) + 1 := by omega
  have hb0 := hid (show Below w.heap.size w (((w.alloc (Obj.cells #[.int .i64 W, .int .i64 H, .int .i64 D, .slice Ak kind.length ck, .slice Ao out.length co] 24)).alloc (Obj.cells #[.int .i64 c0, .slice (some ⟨bq, oq, none⟩) (q1.length + 1) cq] 48)).alloc (Obj.cells #[.int .i64 0, .slice none 0 0] 48)) by (repeat (first | exact Below.refl _ _ | assumption | refine below_drewN ?_ _ | refine Below.drew ?_ | refine Below.alloc ?_ (by (try simp); (try omega)) _ | refine Below.setCell ?_ (by (try simp); (try omega)) _)))
  have hS0 := hid (show HS w #[.int .i64 W, .int .i64 H, .int .i64 D, .slice Ak kind.length ck, .slice Ao out.length co] #[.int .i64 c0, .slice (some ⟨bq, oq, none⟩) (q1.length + 1) cq] (((w.alloc (Obj.cells #[.int .i64 W, .int .i64 H, .int .i64 D, .slice Ak kind.length ck, .slice Ao out.length co] 24)).alloc (Obj.cells #[.int .i64 c0, .slice (some ⟨bq, oq, none⟩) (q1.length + 1) cq] 48)).alloc (Obj.cells #[.int .i64 0, .slice none 0 0] 48)) from ⟨hb0.out, ((Blk.new w _ _).alloc _).alloc _, (Blk.new_at (by simp)).alloc _, Blk.new_at (by simp)⟩)
  obtain ⟨A3, c3, hsl, s3⟩ := slice1g bq oq cq act q1 hc1 hc2
  have S3 := hid s3
  clear s3
  go_enter Tryz.func48, Tryz.ntmps48
  go_wp2_with fail
  refine (rfnextM_any c0 (some ⟨bq, oq, none⟩) cq (act :: q1) _ (by unfold maxLen; simp; omega) ((hq.below hb0.out).more hb0.out.size)).mono ?_
  rintro e w0 ⟨rfl, hB⟩
  simp only [List.headD_cons]
  have hS := hid (hS0.out.step hB)
  clear hB hS0 hb0
  have mm := hS.out.m.cell 0
  have mm1 := hS.out.m.cell 1
  have ml := hS.out.m.lt
  have Hz := hid hS.out.size
  have ml2 : w.heap.size < w0.heap.size := by omega
  simp at mm mm1
  have Z3 := hid (show w.heap.size + 1 + 1 < w0.heap.size by have := Hz.out; omega)
  have Z4 := hid (show w.heap.size + 1 + 1 < w0.heap.size + 1 by have := Hz.out; omega)
  have y4 := hid (show w0.heap.size + 1 = ((World.drew w0).alloc (Obj.cells #[] 3)).heap.size by simp)
  have y5 := hid (show w0.heap.size + 1 = (w0.alloc (Obj.cells #[] 3)).heap.size by simp)
  go_upto_region 3 with fail
  go_cut [9] (fun s wx => HrX w #[.int .i64 W, .int .i64 H, .int .i64 D, .slice Ak kind.length ck, .slice Ao out.length co] #[.int .i64 c0, .slice (some ⟨bq, oq, none⟩) (q1.length + 1) cq] c0 q1 s wx)
  case first =>
    by_cases hne : q1 = []
    · subst hne
      simp only [List.length_nil, Nat.zero_add] at *
      go_region_law (refine step_appE _ (by rfl) (.tmp 28) (.tmp 31) (by rfl) _ _ _ (by rfl) (by rfl) ?_)
      all_goals
        go_wp2_with fail
        go_meet
        first
          | exact hrX_none ((hS.out.alloc _).alloc _).drew Z4.out (Blk.new_at y5.out).drew
          | exact hrX_none ((hS.out.alloc _).alloc _).drew Z3.out ((Blk.new _ _ _).alloc _).drew
    have hpos : 0 < q1.length := List.length_pos_iff.2 hne
    obtain ⟨ba, oa, rfl, hba, _, _⟩ := (S3.out _ _ hq).int hpos
    have hcl : Hid (∀ W', Below w.heap.size w W' → ∀ (j : Nat) (u : Value), (q1.map (Value.int .i64))[j]? = some u → W'.cell? ((⟨ba, oa, none⟩ : Addr).add j) = some u) := hid (fun W' hW' j u hu => by
      rw [List.getElem?_map] at hu
      cases hj : q1[j]? with
      | none => rw [hj] at hu; cases hu
      | some y =>
        rw [hj] at hu
        obtain rfl : Value.int .i64 y = u := by simpa using hu
        obtain ⟨hlt, rfl⟩ := List.getElem?_eq_some_iff.1 hj
        rw [add_at']
        exact ((S3.out _ _ hq).below hW').int_at hlt)
    clear hne
    go_region_law (first | (refine step_appI _ (by rfl) (.tmp 28) (.tmp 31) (by rfl) w0.heap.size _ [] (by rfl) ?_ ⟨ba, oa, none⟩ c3 q1 (by rfl) ?_ hpos ?_ ?_ ?_; (refine ownE ?_ ?_; (first | exact Blk.new_at (by simp) | exact (Blk.new_at (by simp)).alloc _); (simp)); (first | exact hcl.out _ hS.out.drew.below | exact hcl.out _ (hS.out.drew.alloc _).below | exact hcl.out _ ((hS.out.drew.alloc _).alloc _).below); (focus (simp <;> omega)); (focus (simp <;> omega)); intro g cap w8 ho1 hgr hat hlt1; (first | (have hS8 := HS.grown (hS.out.drew.alloc _) hgr Z3.out) | (have hS8 := HS.grown ((hS.out.drew.alloc _).alloc _) hgr Z3.out) | (have hS8 := HS.grown ((hS.out.drew.alloc _).alloc _) hgr Z4.out)); have mm8 := hS8.m.cell 0; have mn8 := hS8.m.cell 1; have mf8 := hS8.m.lt; simp at mm8 mn8; (first | (have q3 := ((Blk.new (World.drew w0) 48 #[.int .i64 0, .slice none 0 0]).alloc (Obj.cells #[] 3)).grown hgr (ne9a w0.heap.size); have qc0 := q3.cell 0; have qc1 := q3.cell 1; have qf0 := q3.frozen 0; have qf1 := q3.frozen 1; have ql := q3.lt; simp at qc0 qc1 qf0 qf1 ql) | (have q4 := (Blk.new_at (cs := #[.int .i64 0, .slice none 0 0]) (t := 48) y4.out).grown hgr (ne9b w0.heap.size); have qc0 := q4.cell 0; have qc1 := q4.cell 1; have qf0 := q4.frozen 0; have qf1 := q4.frozen 1; have ql := q4.lt; simp at qc0 qc1 qf0 qf1 ql) | skip)))
    all_goals
      go_wp2_with fail
      go_meet
      first
        | exact hrX_own hS8 Z3.out ho1 hints.out
        | exact hrX_box hS8 Z3.out ho1 hints.out Z3.out q3
        | exact hrX_box hS8 Z3.out ho1 hints.out Z4.out q4
  case rest =>
    obtain ⟨b, A', c', rfl, hX, hb9, hbn, hsx, hxx⟩ := hcut
    have HXX := hid hxx
    clear hxx hS mm mm1 ml ml2 hsl
    obtain ⟨m0, m1⟩ := blk2 hX.m
    obtain ⟨t0, t1⟩ := blk2 hb9
    obtain ⟨k0, k1, k2, k3, k4⟩ := blk5 hX.f
    obtain ⟨r0, r1⟩ := blk2 hX.r
    have f0 := hX.r.frozen 0
    have f1 := hX.r.frozen 1
    have z1 := hX.m.lt
    have z2 := hb9.lt
    have z3 := hX.r.lt
    have HX := hid hX
    have HB9 := hid hb9
    have hsx' := hid hsx
    clear hX hb9 hsx
    by_cases hlo : act < 1
    · have hcase := hid (show (didC (nextL W H D kind out) c0 act, q1) = (c0, q1) by simp [didC, isMv, show ¬ (1 ≤ act ∧ act < 7) by omega])
      go_wp2_with fail
      refine bodyPost_ret (v := .agg #[.int .i64 c0, .slice A' q1.length c']) (by simp [results, Tryz.results48, go_sem, f0, f1, r0, r1, z3]) rfl ?_
      have hb2 := hid ((HX.out.below.setCell (p := ⟨w.heap.size + 1 + 1, 0, none⟩) (by simp; omega) (.int .i64 c0)).setCell (p := ⟨w.heap.size + 1 + 1, 1, none⟩) (by simp; omega) (.slice A' q1.length c'))
      refine retMr_of hcase.out rfl ?_ hb2.out
      by_cases he : q1 = []
      · subst he; exact SlR.nil
      · have := (hsx'.out.far (p := ⟨w.heap.size + 1 + 1, 0, none⟩) (fun a ha => (HXX.out he a ha).1) (.int .i64 c0)).far (p := ⟨w.heap.size + 1 + 1, 1, none⟩) (fun a ha => (HXX.out he a ha).1) (.slice A' q1.length c')
        simpa using this
    by_cases hhi : 6 < act
    · have hcase := hid (show (didC (nextL W H D kind out) c0 act, q1) = (c0, q1) by simp [didC, isMv, show ¬ (1 ≤ act ∧ act < 7) by omega])
      go_wp2_with fail
      refine bodyPost_ret (v := .agg #[.int .i64 c0, .slice A' q1.length c']) (by simp [results, Tryz.results48, go_sem, f0, f1, r0, r1, z3]) rfl ?_
      have hb2 := hid ((HX.out.below.setCell (p := ⟨w.heap.size + 1 + 1, 0, none⟩) (by simp; omega) (.int .i64 c0)).setCell (p := ⟨w.heap.size + 1 + 1, 1, none⟩) (by simp; omega) (.slice A' q1.length c'))
      refine retMr_of hcase.out rfl ?_ hb2.out
      by_cases he : q1 = []
      · subst he; exact SlR.nil
      · have := (hsx'.out.far (p := ⟨w.heap.size + 1 + 1, 0, none⟩) (fun a ha => (HXX.out he a ha).1) (.int .i64 c0)).far (p := ⟨w.heap.size + 1 + 1, 1, none⟩) (fun a ha => (HXX.out he a ha).1) (.slice A' q1.length c')
        simpa using this
    have hcase := hid (show didC (nextL W H D kind out) c0 act = (nextL W H D kind out c0 (act - 1)).getD 0 by simp [didC, isMv, show (1 ≤ act ∧ act < 7) by omega])
    go_wp2_with fail
    refine (rfnext_any W H D Ak Ao ck co kind out c0 (act - 1) _ hI.out ((hk.below HX.out.below).more HX.out.below.size) ((ho.below HX.out.below).more HX.out.below.size)).mono ?_
    rintro e w9 ⟨he2, hB9⟩
    have HX9 := hid (HX.out.step hB9)
    have HB10 := hid (HB9.out.below hB9 z2)
    have hsx9 := hid ((hsx'.out.below hB9).more hB9.size)
    clear k0 k1 k2 k3 k4 m0 m1 t0 t1 z1 z2 z3 HX HB9 hsx' hB9 r0 r1 f0 f1
    obtain ⟨t0, t1⟩ := blk2 HB10.out
    have u0 := HB10.out.frozen 0
    obtain ⟨r0, r1⟩ := blk2 HX9.out.r
    have f0 := HX9.out.r.frozen 0
    have f1 := HX9.out.r.frozen 1
    have z2 := HB10.out.lt
    have z3 := HX9.out.r.lt
    have hbn1 : b ≠ w.heap.size + 1 + 1 := by omega
    have hbn2 : ¬ w.heap.size + 1 + 1 = b := by omega
    have hv : ∃ n ok, e = .returned (.tuple #[.int .i64 n, .bool ok]) ∧ n = didC (nextL W H D kind out) c0 act := by
      rw [hcase.out]
      cases hnx : nextL W H D kind out c0 (act - 1) with
      | none => rw [hnx] at he2; exact ⟨0, false, he2, rfl⟩
      | some n => rw [hnx] at he2; exact ⟨n, true, he2, rfl⟩
    obtain ⟨n, ok, rfl, hn⟩ := hv
    have Hn := hid hn
    clear he2 hn
    go_wp2_with fail
    refine bodyPost_ret (v := .agg #[.int .i64 n, .slice A' q1.length c']) (by simp [results, Tryz.results48, go_sem, f0, f1, r0, r1, z3, hbn1, hbn2]) rfl ?_
    have hb2 := hid (((HX9.out.below.setCell (p := ⟨b, 0, none⟩) (by simp; omega) (.int .i64 n)).setCell (p := ⟨w.heap.size + 1 + 1, 0, none⟩) (by simp; omega) (.int .i64 n)).setCell (p := ⟨w.heap.size + 1 + 1, 1, none⟩) (by simp; omega) (.slice A' q1.length c'))
    refine retMr_of (show (didC (nextL W H D kind out) c0 act, q1) = (n, q1) by rw [Hn.out]) rfl ?_ hb2.out
    by_cases he : q1 = []
    · subst he; exact SlR.nil
    · have := ((hsx9.out.far (p := ⟨b, 0, none⟩) (fun a ha => (HXX.out he a ha).2) (.int .i64 n)).far (p := ⟨w.heap.size + 1 + 1, 0, none⟩) (fun a ha => (HXX.out he a ha).1) (.int .i64 n)).far (p := ⟨w.heap.size + 1 + 1, 1, none⟩) (fun a ha => (HXX.out he a ha).1) (.slice A' q1.length c')
      simpa using this
theorem rfdid_any (W H D : Int) (Ak Ao : Option Addr) (ck co : Nat) (kind out : List Int) (c0 : Int) (Aq : Option Addr) (cq : Nat) (q : List Int) (act : Int) (done : Bool) (w : World) (h : RF W H D kind out) (hc1 : q.length ≤ cq) (hc2 : cq ≤ maxLen) (hql : q.length ≤ 65536) (hk : SlR w w.heap.size Ak kind) (ho : SlR w w.heap.size Ao out) (hq : SlR w w.heap.size Aq q) (hkn : ∀ x ∈ q, 0 ≤ x ∧ x < 10) :
    Calls Tryz.prog 48 #[.agg #[.int .i64 W, .int .i64 H, .int .i64 D, .slice Ak kind.length ck, .slice Ao out.length co], .agg #[.int .i64 c0, .slice Aq q.length cq], .int .i64 act, .bool done] w (RetMr w (didL (nextL W H D kind out) c0 q act done)) := by
  have hqm : q.length ≤ maxLen := Nat.le_trans hc1 hc2
  cases done with
  | false => rw [didL_off]; exact rfdid_same W H D Ak Ao ck co kind out c0 Aq cq q act false w hqm hq (.inl rfl)
  | true =>
    cases q with
    | nil => exact rfdid_same W H D Ak Ao ck co kind out c0 Aq cq [] act true w hqm hq (.inr (.inl rfl))
    | cons a q1 =>
      by_cases ha : a = act
      · subst ha
        have := rfdid_hit W H D Ak Ao ck co kind out c0 Aq cq q1 a w h hc1 hc2 hql hk ho hq (hkn a (by simp))
        simpa [didL, didC] using this
      · have := rfdid_same W H D Ak Ao ck co kind out c0 Aq cq (a :: q1) act true w hqm hq (.inr (.inr ⟨rfl, by simp, by simpa using ha⟩))
        simpa [didL, ha] using this
end Go.Proofs.YtnnephifjikkdaaGreatDoor
