
/- Seam: the law's 'small'. -/
import Derived.Test.YtfofmbmmighdiaaDoorSeamQ
set_option linter.unusedSimpArgs false
set_option linter.unusedVariables false
namespace Go.Proofs.YtfofmbmmighdiaaDoor
open Go.RowKit Go.IntWalk

/-- Two desks. -/
structure S2 (w : World) (xa na : Nat) (va : Value) (ma : Int) (xb nb : Nat) (vb : Value) (mb : Int) (ra rb : List Rob) (wx : World) : Prop where
  below : Below w.heap.size w wx
  la : w.heap.size ≤ xa
  lb : w.heap.size ≤ xb
  da : Dk wx xa na va ma ra
  db : Dk wx xb nb vb mb rb
  ab : va.ownBlock = none ∨ va.ownBlock ≠ vb.ownBlock
  ba : vb.ownBlock = none ∨ vb.ownBlock ≠ va.ownBlock
section
variable {w wx wy : World} {xa na xb nb : Nat} {va vb : Value} {ma mb : Int} {ra rb : List Rob}
theorem S2.step (h : S2 w xa na va ma xb nb vb mb ra rb wx) (hb : Below wx.heap.size wx wy) : S2 w xa na va ma xb nb vb mb ra rb wy :=
  ⟨h.below.trans (hb.mono h.below.size), h.la, h.lb, h.da.below hb, h.db.below hb, h.ab, h.ba⟩
theorem S2.alloc (h : S2 w xa na va ma xb nb vb mb ra rb wx) (o : Obj) : S2 w xa na va ma xb nb vb mb ra rb (wx.alloc o) := h.step (by (repeat (first | exact Below.refl _ _ | assumption | refine below_drewN ?_ _ | refine Below.drew ?_ | refine Below.alloc ?_ (by (try simp); (try omega)) _ | refine Below.setCell ?_ (by (try simp); (try omega)) _)))
theorem S2.drew (h : S2 w xa na va ma xb nb vb mb ra rb wx) : S2 w xa na va ma xb nb vb mb ra rb wx.drew := h.step (by (repeat (first | exact Below.refl _ _ | assumption | refine below_drewN ?_ _ | refine Below.drew ?_ | refine Below.alloc ?_ (by (try simp); (try omega)) _ | refine Below.setCell ?_ (by (try simp); (try omega)) _)))
theorem S2.a (h : S2 w xa na va ma xb nb vb mb ra rb wx) {ra' : List Rob} (hd : Dk wy xa na va ma ra') (hg : wx.grownBy wy va.ownBlock) : S2 w xa na va ma xb nb vb mb ra' rb wy :=
  ⟨h.da.low h.below h.la hg, h.la, h.lb, hd, h.db.beside h.da hg h.ba, h.ab, h.ba⟩
theorem S2.b (h : S2 w xa na va ma xb nb vb mb ra rb wx) {rb' : List Rob} (hd : Dk wy xb nb vb mb rb') (hg : wx.grownBy wy vb.ownBlock) : S2 w xa na va ma xb nb vb mb ra rb' wy :=
  ⟨h.db.low h.below h.lb hg, h.la, h.lb, h.da.beside h.db hg h.ab, hd, h.ab, h.ba⟩
theorem S2.boxA (h : S2 w xa na va ma xb nb vb mb ra rb wx) {g : Nat} {cs : Array Value} (hp : Blk wx g 27 cs) (hg : wx.grownBy wy va.ownBlock) : Blk wy g 27 cs :=
  hp.grown hg (fun e => own_blk_ne h.da.r hp (by decide) e.symm)
theorem S2.boxB (h : S2 w xa na va ma xb nb vb mb ra rb wx) {g : Nat} {cs : Array Value} (hp : Blk wx g 27 cs) (hg : wx.grownBy wy vb.ownBlock) : Blk wy g 27 cs :=
  hp.grown hg (fun e => own_blk_ne h.db.r hp (by decide) e.symm)
end
theorem box3 {w : World} {g : Nat} {t : TypeId} {x y z : Value} (h : Blk w g t #[x, y, z]) : w.cell? ⟨g, 0, none⟩ = some x ∧ w.cell? ⟨g, 1, none⟩ = some y ∧ w.cell? ⟨g, 2, none⟩ = some z := ⟨h.cell 0, h.cell 1, h.cell 2⟩
theorem sm_o1 : offerL [(1, 0, false)] 0 = ([(2, 1, false)], (0, 0, 1), 0) := by decide
theorem sm_h1 : hearL [(0, 0, false)] (0, 0, 1) true = ([(1, 1, false)], (1, 0, 1), true, 0) := by decide
theorem sm_h2 : hearL [(1, 1, false)] (0, 0, 1) true = ([(1, 1, false)], (1, 0, 1), true, 0) := by decide
theorem sm_h3 : hearL [(2, 1, false)] (1, 0, 1) true = ([(0, 1, false)], (0, 0, 0), false, 0) := by decide
theorem sm_o2 : offerL [(1, 1, false)] 0 = ([(2, 2, false)], (0, 0, 2), 0) := by decide
theorem sm_h4 : hearL [(2, 2, false)] (0, 0, 1) true = ([(2, 2, false)], (0, 0, 0), false, 0) := by decide
set_option maxRecDepth 100000 in
set_option maxHeartbeats 4000000 in
theorem dsmall_any (w : World) : Calls Tryd.prog 7 #[] w fun e w' => e = .returned (.bool true) ∧ Below w.heap.size w w' := by
  have hb0 := hid (show Below w.heap.size w (w.alloc (Obj.cells #[.bool true] 4)) by (repeat (first | exact Below.refl _ _ | assumption | refine below_drewN ?_ _ | refine Below.drew ?_ | refine Below.alloc ?_ (by (try simp); (try omega)) _ | refine Below.setCell ?_ (by (try simp); (try omega)) _)))
  go_enter Tryd.func7, Tryd.ntmps7
  go_wp2_with fail
  refine (new_yes 0 _ 1 [true] _ (.inl rfl) (by simp) (slb_one (Blk.new w 4 _) (by simp))).mono ?_
  rintro e w1 ⟨na, va, rfl, hna, DA, hB⟩
  have hB1 := hid (hb0.out.trans (hB.mono (by simp)))
  have DA1 := hid DA
  clear hb0 hB DA
  generalize hxa : (w.alloc (Obj.cells #[.bool true] 4)).heap.size = xa at *
  have hla := hid (show w.heap.size ≤ xa by simp at hxa; omega)
  clear hxa
  go_wp2_with fail
  refine (new_yes 1 _ 1 [false] _ (.inr rfl) (by simp) (slb_one (Blk.new w1 4 _) (by simp))).mono ?_
  rintro e w2 ⟨nb, vb, rfl, hnb, DB, hB⟩
  have hB2 := hid ((hB1.out.alloc hB1.out.size (Obj.cells #[.bool false] 4)).trans (hB.mono (by simp; have := hB1.out.size; omega)))
  have sep := own_sep (DA1.out.alloc (Obj.cells #[.bool false] 4)) DB (Nat.le_refl _)
  have s2 := hid (show S2 w xa na va 0 _ nb vb 1 [(1, 0, false)] [(0, 0, false)] w2 from ⟨hB2.out, hla.out, by simp; have := hB1.out.size; omega, (DA1.out.alloc _).below hB, DB, sep.1, sep.2⟩)
  generalize (w1.alloc (Obj.cells #[.bool false] 4)).heap.size = xb at *
  clear hB1 DA1 hB DB hB2 sep hla
  go_wp2_with fail
  have c1 := offer_any s2.out.da 0 (by simp)
  rw [sm_o1] at c1
  refine c1.mono ?_
  clear c1
  rintro e w3 ⟨rfl, hd, hg⟩
  have s3 := hid (s2.out.a hd hg)
  clear hd hg s2
  go_wp2_with fail
  have s4 := hid (s3.out.alloc (Obj.cells #[.int .i64 0, .int .i64 0, .int .i64 1] 27))
  have p4 := Blk.new w3 27 #[.int .i64 0, .int .i64 0, .int .i64 1]
  clear s3
  refine (phase_any s4.out.da 0).mono ?_
  rintro e w5 ⟨rfl, rfl⟩
  go_wp2_with fail
  have c2 := hear_any s4.out.db 0 0 1 true
  rw [sm_h1] at c2
  refine c2.mono ?_
  clear c2
  rintro e w5 ⟨rfl, hd, hg⟩
  have s5 := hid (s4.out.b hd hg)
  have p5 := hid (s4.out.boxB p4 hg)
  clear hd hg s4 p4
  generalize w3.heap.size = bp at *
  obtain ⟨x0, x1, x2⟩ := box3 p5.out
  have xl := p5.out.lt
  go_wp2_with fail
  have s6 := hid (s5.out.alloc (Obj.cells #[.int .i64 1, .int .i64 0, .int .i64 1] 27))
  have p6 := hid (p5.out.alloc (Obj.cells #[.int .i64 1, .int .i64 0, .int .i64 1] 27))
  have q6 := hid (Blk.new w5 27 #[.int .i64 1, .int .i64 0, .int .i64 1])
  clear s5 p5 x0 x1 x2 xl
  have c3 := hear_any s6.out.db 0 0 1 true
  rw [sm_h2] at c3
  refine c3.mono ?_
  clear c3
  rintro e w7 ⟨rfl, hd, hg⟩
  have s7 := hid (s6.out.b hd hg)
  have p7 := hid (s6.out.boxB p6.out hg)
  have q7 := hid (s6.out.boxB q6.out hg)
  clear hd hg s6 p6 q6
  generalize w5.heap.size = bq at *
  obtain ⟨y0, y1, y2⟩ := box3 q7.out
  have yl := q7.out.lt
  go_wp2_with fail
  have s8 := hid (s7.out.alloc (Obj.cells #[.int .i64 1, .int .i64 0, .int .i64 1] 27))
  have p8 := hid (p7.out.alloc (Obj.cells #[.int .i64 1, .int .i64 0, .int .i64 1] 27))
  have q8 := hid (q7.out.alloc (Obj.cells #[.int .i64 1, .int .i64 0, .int .i64 1] 27))
  clear s7 p7 q7
  refine (phase_any s8.out.db 0).mono ?_
  rintro e w9 ⟨rfl, rfl⟩
  go_wp2_with fail
  have c4 := hear_any s8.out.da 1 0 1 true
  rw [sm_h3] at c4
  refine c4.mono ?_
  clear c4
  rintro e w9 ⟨rfl, hd, hg⟩
  have s9 := hid (s8.out.a hd hg)
  have p9 := hid (s8.out.boxA p8.out hg)
  clear hd hg s8 p8 q8 y0 y1 y2 yl
  go_wp2_with fail
  have s10 := hid (s9.out.alloc (Obj.cells #[.int .i64 0, .int .i64 0, .int .i64 0] 27))
  have p10 := hid (p9.out.alloc (Obj.cells #[.int .i64 0, .int .i64 0, .int .i64 0] 27))
  clear s9 p9
  refine (phase_any s10.out.da 0).mono ?_
  rintro e w11 ⟨rfl, rfl⟩
  go_wp2_with fail
  have c5 := offer_any s10.out.db 0 (by simp)
  rw [sm_o2] at c5
  refine c5.mono ?_
  clear c5
  rintro e w11 ⟨rfl, hd, hg⟩
  have s11 := hid (s10.out.b hd hg)
  have p11 := hid (s10.out.boxB p10.out hg)
  clear hd hg s10 p10
  obtain ⟨x0, x1, x2⟩ := box3 p11.out
  have xl := p11.out.lt
  go_wp2_with fail
  have s12 := hid (s11.out.alloc (Obj.cells #[.int .i64 0, .int .i64 0, .int .i64 2] 27))
  have r12 := hid (Blk.new w11 27 #[.int .i64 0, .int .i64 0, .int .i64 2])
  clear s11 p11 x0 x1 x2 xl
  have c6 := hear_any s12.out.db 0 0 1 true
  rw [sm_h4] at c6
  refine c6.mono ?_
  clear c6
  rintro e w13 ⟨rfl, hd, hg⟩
  have s13 := hid (s12.out.b hd hg)
  have r13 := hid (s12.out.boxB r12.out hg)
  clear hd hg s12 r12
  generalize w11.heap.size = br at *
  obtain ⟨x0, x1, x2⟩ := box3 r13.out
  have xl := r13.out.lt
  go_wp2_with fail
  go_ret
  exact ⟨rfl, s13.out.below.alloc s13.out.below.size _⟩
end Go.Proofs.YtfofmbmmighdiaaDoor
