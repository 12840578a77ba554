
/- Seam: the reference's PassBytes and ReadPass. -/
import Derived.Test.YtfofmbmmighdiaaDoorSeamE
import Derived.Test.YtfofmbmmighdiaaDoorWireUr
import Derived.Test.YtfofmbmmighdiaaDoorWireB
set_option linter.unusedSimpArgs false
set_option linter.unusedVariables false
namespace Go.Proofs.YtfofmbmmighdiaaDoor
open Go.RowKit Go.IntWalk

set_option maxRecDepth 100000 in
set_option maxHeartbeats 1000000 in
theorem rpbytes_any (k i n : Int) (w : World) (hk : I64 k) (hi : I64 i) (hn : I64 n) :
    Calls Tryd.prog 30 #[.agg #[.int .i64 k, .int .i64 i, .int .i64 n]] w fun e w' => e = .returned (.string (bs (encP (k, i, n)))) ∧ Below w.heap.size w w' := by
  have hs1 : (bs (encI k)).size ≤ 22 := by rw [bs_size]; exact encI_le k hk
  have hs2 : (bs (encI i)).size ≤ 22 := by rw [bs_size]; exact encI_le i hi
  have hs3 : (bs (encI n)).size ≤ 22 := by rw [bs_size]; exact encI_le n hn
  have hs4 : (bs (encI k) ++ bs (encI i)).size ≤ 44 := by
    rw [bs_app, bs_size, List.length_append]
    have := encI_le k hk; have := encI_le i hi; omega
  have hb0 : Below w.heap.size w (w.alloc (Obj.cells #[.int .i64 k, .int .i64 i, .int .i64 n] 27)) := by (repeat (first | exact Below.refl _ _ | assumption | refine below_drewN ?_ _ | refine Below.drew ?_ | refine Below.alloc ?_ (by (try simp); (try omega)) _ | refine Below.setCell ?_ (by (try simp); (try omega)) _))
  go_enter Tryd.func30, Tryd.ntmps30
  go_upto_region 1 with fail
  generalize hw1 : w.alloc (Obj.cells #[.int .i64 k, .int .i64 i, .int .i64 n] 27) = w1
  have bx : Blk w1 w.heap.size 27 #[.int .i64 k, .int .i64 i, .int .i64 n] := by rw [← hw1]; exact Blk.new _ _ _
  rw [hw1] at hb0
  have x0 := bx.cell 0; have x1 := bx.cell 1; have x2 := bx.cell 2
  simp at x0 x1 x2
  have hz := bx.lt
  clear hw1
  have hx := fun x : Ext (GB w1) => GB.cell x
  have ca := hid fun x : Ext (GB w1) => GB.call (rInt_any k hk x.w)
  have cb := hid fun x : Ext (GB w1) => GB.call (rInt_any i hi x.w)
  have cc := hid fun x : Ext (GB w1) => GB.call (rInt_any n hn x.w)
  refine wp_region_ext (GB w1) (by kernel_rfl) (by kernel_rfl) (GB.refl _) ?_
  repeat (go_big_quiet_step (first | with_reducible exact ca.out _ | with_reducible exact cb.out _ | with_reducible exact cc.out _))
  refine wpQuiet_nil ?_
  intro w3 hG
  clear hx ca cb cc
  go_wp2_with fail
  go_ret
  exact ⟨ret_str (by rw [bs_app, bs_app]; rfl), hb0.trans (hG.out.mono hb0.size)⟩
set_option maxRecDepth 100000 in
set_option maxHeartbeats 2000000 in
theorem rrpass_any (s : ByteArray) (w : World) (hs : s.size ≤ 20000) : Calls Tryd.prog 10 #[.string s] w (PsRes w (readPR s.data.toList)) := by
  have hl0 : s.data.toList.length ≤ 20000 := by rw [← size_list]; exact hs
  obtain ⟨k, s1, b1, hkI, hl1, c1, r1⟩ := int_ur s.data.toList false (by omega)
  obtain ⟨i, s2, b2, hiI, hl2, c2, r2⟩ := int_ur s1 b1 (by omega)
  obtain ⟨n, s3, b3, hnI, hl3, c3, r3⟩ := int_ur s2 b2 (by omega)
  have hT := hid (show readP s.data.toList = if b3 = true then none else some ((k, i, n), s3) by
    unfold readP
    rcases r1 with ⟨h1, rfl⟩ | ⟨h1, rfl, rfl, rfl⟩
    · rcases r2 with ⟨h2, rfl⟩ | ⟨h2, rfl, rfl, rfl⟩
      · rcases r3 with ⟨h3, rfl⟩ | ⟨h3, rfl, rfl, rfl⟩
        · rw [h1]; simp [h2, h3]
        · rw [h1]; simp [h2, h3]
      · rcases r3 with ⟨h3, rfl⟩ | ⟨h3, rfl, rfl, rfl⟩
        · rw [h1]; simp [h2]
        · rw [h1]; simp [h2]
    · have e1 : b3 = true := by
        rcases r2 with ⟨h2, rfl⟩ | ⟨h2, rfl, rfl, rfl⟩ <;> rcases r3 with ⟨h3, rfl⟩ | ⟨h3, rfl, rfl, rfl⟩ <;> rfl
      rw [h1, e1]; simp)
  clear r1 r2 r3
  have C1 := hid c1
  have C2 := hid c2
  have C3 := hid c3
  clear c1 c2 c3
  have hb0 := hid (show Below w.heap.size w (w.alloc (Obj.cells #[.int .i64 0, .int .i64 0, .int .i64 0] 27)) by (repeat (first | exact Below.refl _ _ | assumption | refine below_drewN ?_ _ | refine Below.drew ?_ | refine Below.alloc ?_ (by (try simp); (try omega)) _ | refine Below.setCell ?_ (by (try simp); (try omega)) _)))
  have bz := hid (Blk.new w 27 #[.int .i64 0, .int .i64 0, .int .i64 0])
  go_enter Tryd.func10, Tryd.ntmps10
  go_wp2_with fail
  refine (openR_any s _).mono ?_
  rintro e w1 ⟨rfl, hR, hB⟩
  have hB1 := hid (hb0.out.trans (hB.mono hb0.out.size))
  have bz1 := hid (bz.out.below hB bz.out.lt)
  clear hB hb0 bz
  generalize hbq : (w.alloc (Obj.cells #[.int .i64 0, .int .i64 0, .int .i64 0] 27)).heap.size = b at *
  have hwb : w.heap.size < b := by rw [← hbq]; simp
  clear hbq
  go_wp2_with fail
  refine (C1.out _ _ hR).mono ?_
  rintro e w2 ⟨rfl, hR2, hg⟩
  have hB2 := hid ((bg hB1.out hg (by omega)).alloc (by have := (bg hB1.out hg (by omega)).size; omega) (Obj.cells #[.int .i64 k, .int .i64 0, .int .i64 0] 27))
  have bz2 := hid ((Blk.grown bz1.out hg (fun e => by injection e with e; omega)).alloc (Obj.cells #[.int .i64 k, .int .i64 0, .int .i64 0] 27))
  have bx2 := hid (Blk.new w2 27 #[.int .i64 k, .int .i64 0, .int .i64 0])
  have hR2' : Rr (w2.alloc (Obj.cells #[.int .i64 k, .int .i64 0, .int .i64 0] 27)) b s1 b1 := Blk.alloc hR2 _
  have hbg : b < w2.heap.size := hR2.lt
  clear hR hB1 hg bz1 C1 hR2
  go_wp2_with fail
  refine (C2.out _ _ hR2').mono ?_
  rintro e w3 ⟨rfl, hR3, hg⟩
  have hB3 := hid (bg hB2.out hg (by omega))
  have bz3 := hid (Blk.grown bz2.out hg (fun e => by injection e with e; omega))
  have bx3 := hid (Blk.grown bx2.out hg (fun e => by injection e with e; omega))
  clear hR2' hB2 hg bz2 bx2 C2
  generalize w2.heap.size = gx at *
  have t1 := bx3.out.cell 1; have tf1 := bx3.out.frozen 1; have tl := bx3.out.lt
  simp at t1
  go_wp2_with fail
  have hR4 : Rr (w3.setCell ⟨gx, 1, none⟩ (.int .i64 i)) b s2 b2 := Blk.far hR3 (by simp; omega) _
  have hB4 := hid (hB3.out.setCell (p := ⟨gx, 1, none⟩) (by simp; omega) (.int .i64 i))
  have bz4 := hid (bz3.out.far (p := ⟨gx, 1, none⟩) (by simp; omega) (.int .i64 i))
  have bx4 := hid (show Blk (w3.setCell ⟨gx, 1, none⟩ (.int .i64 i)) gx 27 #[.int .i64 k, .int .i64 i, .int .i64 0] by simpa using bx3.out.set_ 1 (.int .i64 i))
  clear hR3 hB3 bz3 bx3 t1 tf1 tl
  refine (C3.out _ _ hR4).mono ?_
  rintro e w5 ⟨rfl, hR5, hg⟩
  have hB5' := hid (bg hB4.out hg (by omega))
  have bz5' := hid (Blk.grown bz4.out hg (fun e => by injection e with e; omega))
  have bx5' := hid (Blk.grown bx4.out hg (fun e => by injection e with e; omega))
  clear hR4 hB4 hg bz4 bx4 C3
  have t2 := bx5'.out.cell 2; have tf2 := bx5'.out.frozen 2; have tl := bx5'.out.lt
  simp at t2
  go_wp2_with fail
  have hR6 : Rr (w5.setCell ⟨gx, 2, none⟩ (.int .i64 n)) b s3 b3 := Blk.far hR5 (by simp; omega) _
  have hB5 := hid (hB5'.out.setCell (p := ⟨gx, 2, none⟩) (by simp; omega) (.int .i64 n))
  have bz5 := hid (bz5'.out.far (p := ⟨gx, 2, none⟩) (by simp; omega) (.int .i64 n))
  have bp5 := hid (show Blk (w5.setCell ⟨gx, 2, none⟩ (.int .i64 n)) gx 27 #[.int .i64 k, .int .i64 i, .int .i64 n] by simpa using bx5'.out.set_ 2 (.int .i64 n))
  clear hR5 hB5' bz5' bx5' t2 tf2 tl
  generalize w5.setCell ⟨gx, 2, none⟩ (.int .i64 n) = w6 at *
  have hd := doneR_any b s3 b3 w6 hR6
  clear hR6
  cases hdn : (!b3 && s3.isEmpty) with
  | false =>
    have hr := hid (show readPR s.data.toList = none by
      unfold readPR
      rw [hT.out]
      cases b3 with
      | true => simp
      | false =>
        simp only [Bool.false_eq_true, if_false]
        rw [if_neg]
        intro h1
        subst h1
        simp at hdn)
    rw [hdn] at hd
    have Hd := hid hd
    clear hd hdn
    refine Hd.out.mono ?_
    rintro e w6 ⟨rfl, hB⟩
    have hB6 := hid (hB5.out.trans (hB.mono hB5.out.size))
    have bz6 := bz5.out.below hB bz5.out.lt
    have r0 := bz6.cell 0; have r1 := bz6.cell 1; have r2 := bz6.cell 2
    have q0 := bz6.frozen 0; have q1 := bz6.frozen 1; have q2 := bz6.frozen 2
    have lz := bz6.lt
    simp at r0 r1 r2
    clear bz6 bz5 bp5 hB hB5
    go_wp2_with fail
    refine bodyPost_ret (v := .tuple #[.agg #[.int .i64 0, .int .i64 0, .int .i64 0], .bool false]) (by simp [results, Tryd.results10, go_sem, r0, r1, r2, q0, q1, q2, lz]) rfl ?_
    rw [hr.out]
    exact ⟨rfl, ((hB6.out.setCell (Nat.le_refl _) _).setCell (Nat.le_refl _) _).setCell (Nat.le_refl _) _⟩
  | true =>
    have hb3 : b3 = false := by cases b3 <;> simp_all
    have hs3 : s3 = [] := by cases s3 <;> simp_all
    have hr := hid (show readPR s.data.toList = some (k, i, n) by unfold readPR; rw [hT.out, hb3, hs3]; simp)
    rw [hdn] at hd
    have Hd := hid hd
    clear hd hdn hb3 hs3
    refine Hd.out.mono ?_
    rintro e w6 ⟨rfl, hB⟩
    have hB6 := hid (hB5.out.trans (hB.mono hB5.out.size))
    have bz6 := bz5.out.below hB bz5.out.lt
    have bp6 := bp5.out.below hB bp5.out.lt
    have r0 := bz6.cell 0; have r1 := bz6.cell 1; have r2 := bz6.cell 2
    have q0 := bz6.frozen 0; have q1 := bz6.frozen 1; have q2 := bz6.frozen 2
    have p0 := bp6.cell 0; have p1 := bp6.cell 1; have p2 := bp6.cell 2
    have lz := bz6.lt; have lp := bp6.lt
    simp at r0 r1 r2 p0 p1 p2
    clear bz6 bp6 bz5 bp5 hB hB5
    go_wp2_with fail
    refine bodyPost_ret (v := .tuple #[.agg #[.int .i64 k, .int .i64 i, .int .i64 n], .bool true]) (by simp [results, Tryd.results10, go_sem, r0, r1, r2, q0, q1, q2, lz]) rfl ?_
    rw [hr.out]
    exact ⟨rfl, ((hB6.out.setCell (Nat.le_refl _) _).setCell (Nat.le_refl _) _).setCell (Nat.le_refl _) _⟩
end Go.Proofs.YtfofmbmmighdiaaDoor
