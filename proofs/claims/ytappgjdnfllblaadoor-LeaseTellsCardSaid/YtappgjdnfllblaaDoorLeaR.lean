
/- Lease: NoteBytes, ReadNote. -/
import Derived.Test.YtappgjdnfllblaaDoorLzA
import Derived.Test.YtappgjdnfllblaaDoorLzC
set_option linter.unusedSimpArgs false
set_option linter.unusedVariables false
namespace Go.Proofs.YtappgjdnfllblaaDoor
open Go.RowKit Go.IntWalk

/-- Four numbers. -/
abbrev P4 := Int × Int × Int × Int
def enc4 (p : P4) : List UInt8 := encI p.1 ++ encI p.2.1 ++ encI p.2.2.1 ++ encI p.2.2.2
def r4 (s : RS) : P4 × RS := (((rI s).1, (rI (rI s).2).1, (rI (rI (rI s).2).2).1, (rI (rI (rI (rI s).2).2).2).1), (rI (rI (rI (rI s).2).2).2).2)
def P4I (p : P4) : Prop := I64 p.1 ∧ I64 p.2.1 ∧ I64 p.2.2.1 ∧ I64 p.2.2.2
theorem r4_bd (s : RS) : P4I (r4 s).1 := ⟨rI_bd _, rI_bd _, rI_bd _, rI_bd _⟩
theorem r4_enc (p : P4) (h : P4I p) (r : List UInt8) (b : Bool) : r4 (enc4 p ++ r, b) = (p, r, b) := by
  obtain ⟨x, y, z, u⟩ := p
  obtain ⟨h1, h2, h3, h4⟩ := h
  simp only at h1 h2 h3 h4
  have e1 : rI (enc4 (x, y, z, u) ++ r, b) = (x, encI y ++ (encI z ++ (encI u ++ r)), b) := by
    unfold enc4
    rw [List.append_assoc, List.append_assoc, List.append_assoc]
    exact rI_enc x h1 _ b
  unfold r4
  rw [e1]
  simp only [rI_enc y h2, rI_enc z h3, rI_enc u h4]
theorem enc4_le (p : P4) (h : P4I p) : (enc4 p).length ≤ 88 := by
  have := encI_le22 _ h.1; have := encI_le22 _ h.2.1; have := encI_le22 _ h.2.2.1; have := encI_le22 _ h.2.2.2
  simp only [enc4, List.length_append]; omega
set_option maxRecDepth 100000 in
set_option maxHeartbeats 1000000 in
theorem nbytes_any (k z u n : Int) (w : World) (hk : I64 k) (hz : I64 z) (hu : I64 u) (hn : I64 n) (he : Env w) :
    Calls Tryd.prog 14 #[noteC k z u n] w fun e w' => e = .returned (.string (bs (enc4 (k, z, u, n)))) ∧ Below w.heap.size w w' := by
  unfold noteC
  have hs1 : (bs (encI k)).size ≤ 22 := by rw [bs_size]; exact encI_le22 k hk
  have hs2 : (bs (encI z)).size ≤ 22 := by rw [bs_size]; exact encI_le22 z hz
  have hs3 : (bs (encI u)).size ≤ 22 := by rw [bs_size]; exact encI_le22 u hu
  have hs4 : (bs (encI n)).size ≤ 22 := by rw [bs_size]; exact encI_le22 n hn
  have hs5 : (bs (encI k) ++ bs (encI z)).size ≤ 44 := by
    rw [bs_app, bs_size, List.length_append]
    have := encI_le22 k hk; have := encI_le22 z hz; omega
  have hs6 : (bs (encI k) ++ bs (encI z) ++ bs (encI u)).size ≤ 66 := by
    rw [bs_app, bs_app, bs_size, List.length_append, List.length_append]
    have := encI_le22 k hk; have := encI_le22 z hz; have := encI_le22 u hu; omega
  have hb0 : Below w.heap.size w (w.alloc (Obj.cells #[.int .i64 k, .int .i64 z, .int .i64 u, .int .i64 n] 26)) := by (repeat (first | exact Below.refl _ _ | assumption | refine below_drewN ?_ _ | refine Below.drew ?_ | refine Below.alloc ?_ (by (try simp); (try omega)) _ | refine Below.setCell ?_ (by (try simp); (try omega)) _))
  go_enter Tryd.func14, Tryd.ntmps14
  go_upto_region 1 with fail
  generalize hw1 : w.alloc (Obj.cells #[.int .i64 k, .int .i64 z, .int .i64 u, .int .i64 n] 26) = w1
  have bx : Blk w1 w.heap.size 26 #[.int .i64 k, .int .i64 z, .int .i64 u, .int .i64 n] := by rw [← hw1]; exact Blk.new _ _ _
  rw [hw1] at hb0
  have x0 := bx.cell 0; have x1 := bx.cell 1; have x2 := bx.cell 2; have x3 := bx.cell 3
  simp at x0 x1 x2 x3
  have hzz := bx.lt
  clear hw1
  have hx := fun x : Ext (GB w1) => GB.cell x
  have env := hid (fun x : Ext (GB w1) => he.below (hb0.trans (x.h.out.mono hb0.size)))
  have ca := hid fun x : Ext (GB w1) => GB.call (wInt_any k hk x.w (env.out x))
  have cb := hid fun x : Ext (GB w1) => GB.call (wInt_any z hz x.w (env.out x))
  have cc := hid fun x : Ext (GB w1) => GB.call (wInt_any u hu x.w (env.out x))
  have cd := hid fun x : Ext (GB w1) => GB.call (wInt_any n hn x.w (env.out x))
  refine wp_region_ext (GB w1) (by kernel_rfl) (by kernel_rfl) (GB.refl _) ?_
  repeat (go_big_quiet_step (first | with_reducible exact ca.out _ | with_reducible exact cb.out _ | with_reducible exact cc.out _ | with_reducible exact cd.out _))
  refine wpQuiet_nil ?_
  intro w3 hG
  clear hx ca cb cc cd env
  go_wp2_with fail
  go_ret
  exact ⟨ret_str (by rw [bs_app, bs_app, bs_app]; rfl), hb0.trans (hG.out.mono hb0.size)⟩
/-- What ReadNote makes of a string. -/
def readN (s : List UInt8) : Option P4 := if (r4 (s, false)).2 = ([], false) then some (r4 (s, false)).1 else none
theorem readN_enc (p : P4) (h : P4I p) : readN (enc4 p) = some p := by
  have := r4_enc p h [] false
  rw [List.append_nil] at this
  unfold readN
  rw [this]
  rfl
def NoRes (w : World) (r : Option P4) (e : Ending) (w' : World) : Prop :=
  match r with
  | some p => e = .returned (.tuple #[noteC p.1 p.2.1 p.2.2.1 p.2.2.2, .bool true]) ∧ Below w.heap.size w w'
  | none => e = .returned (.tuple #[noteC 0 0 0 0, .bool false]) ∧ Below w.heap.size w w'
set_option maxRecDepth 100000 in
set_option maxHeartbeats 2000000 in
theorem rnote_any (s : ByteArray) (w : World) (hs : s.size ≤ 90000) (he : Env w) : Calls Tryd.prog 10 #[.string s] w (NoRes w (readN s.data.toList)) := by
  have hl0 : s.data.toList.length ≤ 90000 := by rw [← size_list]; exact hs
  obtain ⟨k, s1, e1⟩ : ∃ x s', rI (s.data.toList, false) = (x, s') := ⟨_, _, rfl⟩
  obtain ⟨z, s2, e2⟩ : ∃ x s', rI s1 = (x, s') := ⟨_, _, rfl⟩
  obtain ⟨u, s3, e3⟩ : ∃ x s', rI s2 = (x, s') := ⟨_, _, rfl⟩
  obtain ⟨n, s4, e4⟩ : ∃ x s', rI s3 = (x, s') := ⟨_, _, rfl⟩
  have hT := hid (show readN s.data.toList = if s4 = ([], false) then some (k, z, u, n) else none by
    unfold readN r4
    rw [e1]; simp only [e2, e3, e4])
  have l1 := rI_le (s.data.toList, false); have l2 := rI_le s1; have l3 := rI_le s2
  have c1 := rInt_f (s.data.toList, false) (by simp only; omega)
  rw [e1] at l1 c1
  have c2 := rInt_f s1 (by simp only at l1; omega)
  rw [e2] at l2 c2
  have c3 := rInt_f s2 (by simp only at l1 l2; omega)
  rw [e3] at l3 c3
  have c4 := rInt_f s3 (by simp only at l1 l2 l3; omega)
  rw [e4] at c4
  simp only at c1 c2 c3 c4
  have C1 := hid c1
  have C2 := hid c2
  have C3 := hid c3
  have C4 := hid c4
  clear c1 c2 c3 c4 e1 e2 e3 e4 l1 l2 l3
  have hb0 := hid (show Below w.heap.size w (w.alloc (Obj.cells #[.int .i64 0, .int .i64 0, .int .i64 0, .int .i64 0] 26)) by (repeat (first | exact Below.refl _ _ | assumption | refine below_drewN ?_ _ | refine Below.drew ?_ | refine Below.alloc ?_ (by (try simp); (try omega)) _ | refine Below.setCell ?_ (by (try simp); (try omega)) _)))
  have bz := hid (Blk.new w 26 #[.int .i64 0, .int .i64 0, .int .i64 0, .int .i64 0])
  go_enter Tryd.func10, Tryd.ntmps10
  go_wp2_with fail
  refine (open_any s _).mono ?_
  rintro e w1 ⟨rfl, hR, hB⟩
  have hB1 := hid (hb0.out.trans (hB.mono hb0.out.size))
  have bz1 := hid (bz.out.below hB bz.out.lt)
  clear hB hb0 bz
  generalize hbq : (w.alloc (Obj.cells #[.int .i64 0, .int .i64 0, .int .i64 0, .int .i64 0] 26)).heap.size = b at *
  have hwb : w.heap.size < b := by rw [← hbq]; simp
  clear hbq
  go_wp2_with fail
  refine (C1.out _ _ hR (he.below hB1.out)).mono ?_
  rintro e w2 ⟨rfl, hR2, hg⟩
  have hB2 := hid (bg hB1.out hg (by omega))
  have bz2 := hid (Blk.grown bz1.out hg (fun e => by injection e with e; omega))
  clear hR hB1 hg bz1 C1
  go_wp2_with fail
  refine (C2.out _ _ hR2 (he.below hB2.out)).mono ?_
  rintro e w3 ⟨rfl, hR3, hg⟩
  have hB3 := hid (bg hB2.out hg (by omega))
  have bz3 := hid (Blk.grown bz2.out hg (fun e => by injection e with e; omega))
  clear hR2 hB2 hg bz2 C2
  go_wp2_with fail
  refine (C3.out _ _ hR3 (he.below hB3.out)).mono ?_
  rintro e w4 ⟨rfl, hR4, hg⟩
  have hB4 := hid (bg hB3.out hg (by omega))
  have bz4 := hid (Blk.grown bz3.out hg (fun e => by injection e with e; omega))
  clear hR3 hB3 hg bz3 C3
  go_wp2_with fail
  refine (C4.out _ _ hR4 (he.below hB4.out)).mono ?_
  rintro e w5 ⟨rfl, hR5, hg⟩
  have hB5' := hid (bg hB4.out hg (by omega))
  have bz5' := hid (Blk.grown bz4.out hg (fun e => by injection e with e; omega))
  clear hR4 hB4 hg bz4 C4
  have hB5 := hid (hB5'.out.alloc hB5'.out.size (Obj.cells #[.int .i64 k, .int .i64 z, .int .i64 u, .int .i64 n] 26))
  have bz5 := hid (bz5'.out.alloc (Obj.cells #[.int .i64 k, .int .i64 z, .int .i64 u, .int .i64 n] 26))
  have bp5 := hid (Blk.new w5 26 #[.int .i64 k, .int .i64 z, .int .i64 u, .int .i64 n])
  have hd := done_any b s4.1 s4.2 (w5.alloc (Obj.cells #[.int .i64 k, .int .i64 z, .int .i64 u, .int .i64 n] 26)) (Blk.alloc hR5 _)
  have hne := hid (show w.heap.size ≠ w5.heap.size by have := hR5.lt; omega)
  clear hR5 hB5' bz5'
  have hws := hid hwb
  cases hdn : (!s4.2 && s4.1.isEmpty) with
  | false =>
    have hr := hid (show readN s.data.toList = none by
      rw [hT.out, if_neg]
      intro h
      rw [h] at hdn
      simp at hdn)
    rw [hdn] at hd
    have Hd := hid hd
    clear hd hdn
    go_wp2_with fail
    refine Hd.out.mono ?_
    rintro e w6 ⟨rfl, hB⟩
    have hB6 := hid (hB5.out.trans (hB.mono hB5.out.size))
    have bz6 := hid (bz5.out.below hB bz5.out.lt)
    have r0 := bz6.out.cell 0; have r1 := bz6.out.cell 1; have r2 := bz6.out.cell 2; have r3 := bz6.out.cell 3; have fz := bz6.out.frozen
    simp at r0 r1 r2 r3
    clear hB hB5 bz5 bp5 Hd hne
    go_wp2_with fail
    have N4 := hid ((((bz6.out.set_ 0 (.int .i64 0)).set_ 1 (.int .i64 0)).set_ 2 (.int .i64 0)).set_ 3 (.int .i64 0))
    simp at N4
    have B4 := hid ((((hB6.out.setCell (p := ⟨w.heap.size, 0, none⟩) (Nat.le_refl _) (.int .i64 0)).setCell (p := ⟨w.heap.size, 1, none⟩) (Nat.le_refl _) (.int .i64 0)).setCell (p := ⟨w.heap.size, 2, none⟩) (Nat.le_refl _) (.int .i64 0)).setCell (p := ⟨w.heap.size, 3, none⟩) (Nat.le_refl _) (.int .i64 0))
    refine bodyPost_ret (lres_row Tryd.results10 _ _ w.heap.size 26 #[.int .i64 0, .int .i64 0, .int .i64 0, .int .i64 0] (0, 0) _ rfl N4.out Tryd.underlying26 rfl (by kernel_rfl)) rfl ?_
    rw [hr.out]
    exact ⟨rfl, B4.out⟩
  | true =>
    have hr := hid (show readN s.data.toList = some (k, z, u, n) by
      rw [hT.out, if_pos]
      obtain ⟨l, bd⟩ := s4
      simp only at hdn
      cases bd <;> simp_all)
    rw [hdn] at hd
    have Hd := hid hd
    clear hd hdn
    go_wp2_with fail
    refine Hd.out.mono ?_
    rintro e w6 ⟨rfl, hB⟩
    have hB6 := hid (hB5.out.trans (hB.mono hB5.out.size))
    have bz6 := hid (bz5.out.below hB bz5.out.lt)
    have bp6 := hid (bp5.out.below hB bp5.out.lt)
    have r0 := bz6.out.cell 0; have r1 := bz6.out.cell 1; have r2 := bz6.out.cell 2; have r3 := bz6.out.cell 3; have fz := bz6.out.frozen
    have q0 := bp6.out.cell 0; have q1 := bp6.out.cell 1; have q2 := bp6.out.cell 2; have q3 := bp6.out.cell 3
    simp at r0 r1 r2 r3 q0 q1 q2 q3
    clear hB hB5 bz5 bp5 Hd
    go_wp2_with fail
    have N4 := hid ((((bz6.out.set_ 0 (.int .i64 k)).set_ 1 (.int .i64 z)).set_ 2 (.int .i64 u)).set_ 3 (.int .i64 n))
    simp at N4
    have B4 := hid ((((hB6.out.setCell (p := ⟨w.heap.size, 0, none⟩) (Nat.le_refl _) (.int .i64 k)).setCell (p := ⟨w.heap.size, 1, none⟩) (Nat.le_refl _) (.int .i64 z)).setCell (p := ⟨w.heap.size, 2, none⟩) (Nat.le_refl _) (.int .i64 u)).setCell (p := ⟨w.heap.size, 3, none⟩) (Nat.le_refl _) (.int .i64 n))
    refine bodyPost_ret (lres_row Tryd.results10 _ _ w.heap.size 26 #[.int .i64 k, .int .i64 z, .int .i64 u, .int .i64 n] (0, 0) _ rfl N4.out Tryd.underlying26 rfl (by kernel_rfl)) rfl ?_
    rw [hr.out]
    exact ⟨rfl, B4.out⟩
end Go.Proofs.YtappgjdnfllblaaDoor
