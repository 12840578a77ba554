
/- Seam: PassBytes, ReadPass. -/
import Derived.Test.YtfofmbmmighdiaaDoorSeamD
import Derived.Test.YtfofmbmmighdiaaDoorWireUni
set_option linter.unusedSimpArgs false
set_option linter.unusedVariables false
namespace Go.Proofs.YtfofmbmmighdiaaDoor
open Go.RowKit Go.IntWalk

def encP (p : Pas) : List UInt8 := encI p.1 ++ encI p.2.1 ++ encI p.2.2
def readP (s : List UInt8) : Option (Pas × List UInt8) :=
  match fI s with
  | none => none
  | some (k, s1) => match fI s1 with
    | none => none
    | some (i, s2) => match fI s2 with
      | none => none
      | some (n, s3) => some ((k, i, n), s3)
theorem readP_enc (p : Pas) (h1 : I64 p.1) (h2 : I64 p.2.1) (h3 : I64 p.2.2) (r : List UInt8) : readP (encP p ++ r) = some (p, r) := by
  have e1 : fI (encP p ++ r) = some (p.1, encI p.2.1 ++ (encI p.2.2 ++ r)) := by
    unfold encP
    rw [List.append_assoc, List.append_assoc]
    exact intL_enc p.1 h1 _
  have e2 : fI (encI p.2.1 ++ (encI p.2.2 ++ r)) = some (p.2.1, encI p.2.2 ++ r) := intL_enc p.2.1 h2 _
  have e3 : fI (encI p.2.2 ++ r) = some (p.2.2, r) := intL_enc p.2.2 h3 r
  unfold readP
  rw [e1]
  simp only [e2, e3]
theorem encI_le (n : Int) (h : I64 n) : (encI n).length ≤ 22 := by
  have := Lib.itoa_length_le n h.1 h.2
  simp [encI]; omega
set_option maxRecDepth 100000 in
set_option maxHeartbeats 1000000 in
theorem pbytes_any (k i n : Int) (w : World) (hk : I64 k) (hi : I64 i) (hn : I64 n) (he : Env w) :
    Calls Tryd.prog 29 #[.agg #[.int .i64 k, .int .i64 i, .int .i64 n]] w fun e w' => e = .returned (.string (bs (encP (k, i, n)))) ∧ Below w.heap.size w w' := by
  have hs1 : (bs (encI k)).size ≤ 22 := by rw [bs_size]; exact encI_le k hk
  have hs2 : (bs (encI i)).size ≤ 22 := by rw [bs_size]; exact encI_le i hi
  have hs3 : (bs (encI n)).size ≤ 22 := by rw [bs_size]; exact encI_le n hn
  have hs4 : (bs (encI k) ++ bs (encI i)).size ≤ 44 := by
    rw [bs_app, bs_size, List.length_append]
    have := encI_le k hk; have := encI_le i hi; omega
  have hb0 : Below w.heap.size w (w.alloc (Obj.cells #[.int .i64 k, .int .i64 i, .int .i64 n] 27)) := by (repeat (first | exact Below.refl _ _ | assumption | refine below_drewN ?_ _ | refine Below.drew ?_ | refine Below.alloc ?_ (by (try simp); (try omega)) _ | refine Below.setCell ?_ (by (try simp); (try omega)) _))
  go_enter Tryd.func29, Tryd.ntmps29
  go_upto_region 1 with fail
  generalize hw1 : w.alloc (Obj.cells #[.int .i64 k, .int .i64 i, .int .i64 n] 27) = w1
  have bx : Blk w1 w.heap.size 27 #[.int .i64 k, .int .i64 i, .int .i64 n] := by rw [← hw1]; exact Blk.new _ _ _
  rw [hw1] at hb0
  have x0 := bx.cell 0; have x1 := bx.cell 1; have x2 := bx.cell 2
  simp at x0 x1 x2
  have hz := bx.lt
  clear hw1
  have hx := fun x : Ext (GB w1) => GB.cell x
  have env := hid (fun x : Ext (GB w1) => he.below (hb0.trans (x.h.out.mono hb0.size)))
  have ca := hid fun x : Ext (GB w1) => GB.call (wInt_any k hk x.w (env.out x))
  have cb := hid fun x : Ext (GB w1) => GB.call (wInt_any i hi x.w (env.out x))
  have cc := hid fun x : Ext (GB w1) => GB.call (wInt_any n hn x.w (env.out x))
  refine wp_region_ext (GB w1) (by kernel_rfl) (by kernel_rfl) (GB.refl _) ?_
  repeat (go_big_quiet_step (first | exact ca.out _ | exact cb.out _ | exact cc.out _))
  refine wpQuiet_nil ?_
  intro w3 hG
  clear hx ca cb cc env
  go_wp2_with fail
  go_ret
  exact ⟨ret_str (by rw [bs_app, bs_app]; rfl), hb0.trans (hG.out.mono hb0.size)⟩
/-- What ReadPass makes of a string. -/
def readPR (s : List UInt8) : Option Pas :=
  match readP s with
  | some (p, r) => if r = [] then some p else none
  | none => none
def PsRes (w : World) (r : Option Pas) (e : Ending) (w' : World) : Prop :=
  match r with
  | some p => e = .returned (.tuple #[.agg #[.int .i64 p.1, .int .i64 p.2.1, .int .i64 p.2.2], .bool true]) ∧ Below w.heap.size w w'
  | none => e = .returned (.tuple #[.agg #[.int .i64 0, .int .i64 0, .int .i64 0], .bool false]) ∧ Below w.heap.size w w'
set_option maxRecDepth 100000 in
set_option maxHeartbeats 2000000 in
theorem rpass_any (s : ByteArray) (w : World) (hs : s.size ≤ 20000) (he : Env w) : Calls Tryd.prog 9 #[.string s] w (PsRes w (readPR s.data.toList)) := by
  have hl0 : s.data.toList.length ≤ 20000 := by rw [← size_list]; exact hs
  obtain ⟨k, s1, b1, hkI, hl1, c1, r1⟩ := int_uni s.data.toList false (by omega)
  obtain ⟨i, s2, b2, hiI, hl2, c2, r2⟩ := int_uni s1 b1 (by omega)
  obtain ⟨n, s3, b3, hnI, hl3, c3, r3⟩ := int_uni s2 b2 (by omega)
  have hT := hid (show readP s.data.toList = if b3 = true then none else some ((k, i, n), s3) by
    unfold readP
    rcases r1 with ⟨h1, rfl⟩ | ⟨h1, rfl, rfl, rfl⟩
    · rcases r2 with ⟨h2, rfl⟩ | ⟨h2, rfl, rfl, rfl⟩
      · rcases r3 with ⟨h3, rfl⟩ | ⟨h3, rfl, rfl, rfl⟩
        · rw [h1]; simp [h2, h3]
        · rw [h1]; simp [h2, h3]
      · rcases r3 with ⟨h3, rfl⟩ | ⟨h3, rfl, rfl, rfl⟩
        · rw [h1]; simp [h2]
        · rw [h1]; simp [h2]
    · have e1 : b3 = true := by
        rcases r2 with ⟨h2, rfl⟩ | ⟨h2, rfl, rfl, rfl⟩ <;> rcases r3 with ⟨h3, rfl⟩ | ⟨h3, rfl, rfl, rfl⟩ <;> rfl
      rw [h1, e1]; simp)
  clear r1 r2 r3
  have C1 := hid c1
  have C2 := hid c2
  have C3 := hid c3
  clear c1 c2 c3
  have hb0 := hid (show Below w.heap.size w (w.alloc (Obj.cells #[.int .i64 0, .int .i64 0, .int .i64 0] 27)) by (repeat (first | exact Below.refl _ _ | assumption | refine below_drewN ?_ _ | refine Below.drew ?_ | refine Below.alloc ?_ (by (try simp); (try omega)) _ | refine Below.setCell ?_ (by (try simp); (try omega)) _)))
  have bz := hid (Blk.new w 27 #[.int .i64 0, .int .i64 0, .int .i64 0])
  go_enter Tryd.func9, Tryd.ntmps9
  go_wp2_with fail
  refine (open_any s _).mono ?_
  rintro e w1 ⟨rfl, hR, hB⟩
  have hB1 := hid (hb0.out.trans (hB.mono hb0.out.size))
  have bz1 := hid (bz.out.below hB bz.out.lt)
  clear hB hb0 bz
  generalize hbq : (w.alloc (Obj.cells #[.int .i64 0, .int .i64 0, .int .i64 0] 27)).heap.size = b at *
  have hwb : w.heap.size < b := by rw [← hbq]; simp
  clear hbq
  go_wp2_with fail
  refine (C1.out _ _ hR (he.below hB1.out)).mono ?_
  rintro e w2 ⟨rfl, hR2, hg⟩
  have hB2 := hid (bg hB1.out hg (by omega))
  have bz2 := hid (Blk.grown bz1.out hg (fun e => by injection e with e; omega))
  clear hR hB1 hg bz1 C1
  go_wp2_with fail
  refine (C2.out _ _ hR2 (he.below hB2.out)).mono ?_
  rintro e w3 ⟨rfl, hR3, hg⟩
  have hB3 := hid (bg hB2.out hg (by omega))
  have bz3 := hid (Blk.grown bz2.out hg (fun e => by injection e with e; omega))
  clear hR2 hB2 hg bz2 C2
  go_wp2_with fail
  refine (C3.out _ _ hR3 (he.below hB3.out)).mono ?_
  rintro e w4 ⟨rfl, hR4, hg⟩
  have hB4 := hid (bg hB3.out hg (by omega))
  have bz4 := hid (Blk.grown bz3.out hg (fun e => by injection e with e; omega))
  clear hR3 hB3 hg bz3 C3
  have hB5 := hid (hB4.out.alloc hB4.out.size (Obj.cells #[.int .i64 k, .int .i64 i, .int .i64 n] 27))
  have bz5 := hid (bz4.out.alloc (Obj.cells #[.int .i64 k, .int .i64 i, .int .i64 n] 27))
  have bp5 := hid (Blk.new w4 27 #[.int .i64 k, .int .i64 i, .int .i64 n])
  have hd := done_any b s3 b3 (w4.alloc (Obj.cells #[.int .i64 k, .int .i64 i, .int .i64 n] 27)) (Blk.alloc hR4 _)
  clear hR4 hB4 bz4
  cases hdn : (!b3 && s3.isEmpty) with
  | false =>
    have hr := hid (show readPR s.data.toList = none by
      unfold readPR
      rw [hT.out]
      cases b3 with
      | true => simp
      | false =>
        simp only [Bool.false_eq_true, if_false]
        rw [if_neg]
        intro h1
        subst h1
        simp at hdn)
    rw [hdn] at hd
    have Hd := hid hd
    clear hd hdn
    go_wp2_with fail
    refine Hd.out.mono ?_
    rintro e w6 ⟨rfl, hB⟩
    have hB6 := hid (hB5.out.trans (hB.mono hB5.out.size))
    have bz6 := bz5.out.below hB bz5.out.lt
    have r0 := bz6.cell 0; have r1 := bz6.cell 1; have r2 := bz6.cell 2
    have q0 := bz6.frozen 0; have q1 := bz6.frozen 1; have q2 := bz6.frozen 2
    have lz := bz6.lt
    simp at r0 r1 r2
    clear bz6 bz5 bp5 hB hB5
    go_wp2_with fail
    refine bodyPost_ret (v := .tuple #[.agg #[.int .i64 0, .int .i64 0, .int .i64 0], .bool false]) (by simp [results, Tryd.results9, go_sem, r0, r1, r2, q0, q1, q2, lz]) rfl ?_
    rw [hr.out]
    exact ⟨rfl, ((hB6.out.setCell (Nat.le_refl _) _).setCell (Nat.le_refl _) _).setCell (Nat.le_refl _) _⟩
  | true =>
    have hb3 : b3 = false := by cases b3 <;> simp_all
    have hs3 : s3 = [] := by cases s3 <;> simp_all
    have hr := hid (show readPR s.data.toList = some (k, i, n) by unfold readPR; rw [hT.out, hb3, hs3]; simp)
    rw [hdn] at hd
    have Hd := hid hd
    clear hd hdn hb3 hs3
    go_wp2_with fail
    refine Hd.out.mono ?_
    rintro e w6 ⟨rfl, hB⟩
    have hB6 := hid (hB5.out.trans (hB.mono hB5.out.size))
    have bz6 := bz5.out.below hB bz5.out.lt
    have bp6 := bp5.out.below hB bp5.out.lt
    have r0 := bz6.cell 0; have r1 := bz6.cell 1; have r2 := bz6.cell 2
    have q0 := bz6.frozen 0; have q1 := bz6.frozen 1; have q2 := bz6.frozen 2
    have p0 := bp6.cell 0; have p1 := bp6.cell 1; have p2 := bp6.cell 2
    have lz := bz6.lt; have lp := bp6.lt
    simp at r0 r1 r2 p0 p1 p2
    clear bz6 bp6 bz5 bp5 hB hB5
    go_wp2_with fail
    refine bodyPost_ret (v := .tuple #[.agg #[.int .i64 k, .int .i64 i, .int .i64 n], .bool true]) (by simp [results, Tryd.results9, go_sem, r0, r1, r2, q0, q1, q2, lz]) rfl ?_
    rw [hr.out]
    exact ⟨rfl, ((hB6.out.setCell (Nat.le_refl _) _).setCell (Nat.le_refl _) _).setCell (Nat.le_refl _) _⟩
end Go.Proofs.YtfofmbmmighdiaaDoor
