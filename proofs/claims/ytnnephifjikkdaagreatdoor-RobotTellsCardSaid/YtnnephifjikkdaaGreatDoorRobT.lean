
/- Robots: Bytes and Read. -/
import Derived.Test.YtnnephifjikkdaaGreatDoorRobS
import Derived.Test.YtnnephifjikkdaaGreatDoorWireUni
set_option linter.unusedSimpArgs false
set_option linter.unusedVariables false
namespace Go.Proofs.YtnnephifjikkdaaGreatDoor
open Go.RowKit Go.IntWalk

set_option maxRecDepth 100000 in
set_option maxHeartbeats 1000000 in
theorem mbytes_any (c0 : Int) (Aq : Option Addr) (cq : Nat) (q : List Int) (w : World) (hc : I64 c0) (hql : q.length ≤ 1000) (hq : SlR w w.heap.size Aq q) (he : Env w) :
    Calls Tryz.prog 45 #[.agg #[.int .i64 c0, .slice Aq q.length cq]] w fun e w' => e = .returned (.string (bs (encM c0 q))) ∧ Below w.heap.size w w' := by
  have li : ∀ n : Int, I64 n → (encI n).length ≤ 22 := by
    intro n hn
    have := Lib.itoa_length_le n hn.1 hn.2
    simp [encI]; omega
  have hfl : (q.map encI).flatten.length ≤ 1000000000000 := by
    have h1 := encM_len 0 q (by simp [I64]) hq.ints 1000 hql (by decide)
    unfold encM encL at h1
    simp only [List.length_append] at h1
    omega
  have hs1 : (bs (encI c0)).size ≤ 22 := by rw [bs_size]; exact li c0 hc
  have hs2 : (bs (encL (q.map encI))).size ≤ 23000 := by
    rw [bs_size]
    have h1 := encM_len 0 q (by simp [I64]) hq.ints 1000 hql (by decide)
    unfold encM at h1
    simp only [List.length_append] at h1
    omega
  have hb0 : Below w.heap.size w (w.alloc (Obj.cells #[.int .i64 c0, .slice Aq q.length cq] 48)) := by (repeat (first | exact Below.refl _ _ | assumption | refine below_drewN ?_ _ | refine Below.drew ?_ | refine Below.alloc ?_ (by (try simp); (try omega)) _ | refine Below.setCell ?_ (by (try simp); (try omega)) _))
  go_enter Tryz.func45, Tryz.ntmps45
  go_upto_region 1 with fail
  generalize hw1 : w.alloc (Obj.cells #[.int .i64 c0, .slice Aq q.length cq] 48) = w1
  have bx : Blk w1 w.heap.size 48 #[.int .i64 c0, .slice Aq q.length cq] := by rw [← hw1]; exact Blk.new _ _ _
  rw [hw1] at hb0
  have x0 := bx.cell 0; have x1 := bx.cell 1
  simp at x0 x1
  have hz := bx.lt
  clear hw1
  have hx := fun x : Ext (GB w1) => GB.cell x
  have env := hid (fun x : Ext (GB w1) => he.below (hb0.trans (x.h.out.mono hb0.size)))
  have ca := hid fun x : Ext (GB w1) => GB.call (wInt_any c0 hc x.w (env.out x))
  have cb := hid fun x : Ext (GB w1) => GB.call (wNums_any Aq cq q x.w hfl (by omega) ((hq.below (hb0.trans (x.h.out.mono hb0.size))).more (hb0.trans (x.h.out.mono hb0.size)).size) (env.out x))
  clear hfl li
  refine wp_region_ext (GB w1) (by kernel_rfl) (by kernel_rfl) (GB.refl _) ?_
  repeat (go_big_quiet_step (first | exact ca.out _ | exact cb.out _))
  refine wpQuiet_nil ?_
  intro w3 hG
  clear hx ca cb env
  go_wp2_with fail
  go_ret
  exact ⟨ret_str (by rw [bs_app]; rfl), hb0.trans (hG.out.mono hb0.size)⟩

/-- A mind that was read, or none. -/
def MdRes (w : World) (r : Option (Int × List Int)) (e : Ending) (w' : World) : Prop :=
  match r with
  | some (c, q) => ∃ A cq, e = .returned (.tuple #[.agg #[.int .i64 c, .slice A q.length cq], .bool true]) ∧ q.length ≤ cq ∧ cq ≤ maxLen ∧ OwnI w' w.heap.size (.slice A q.length cq) q ∧ SlR w' w'.heap.size A q ∧ Below w.heap.size w w'
  | none => e = .returned (.tuple #[.agg #[.int .i64 0, .slice none 0 0], .bool false]) ∧ Below w.heap.size w w'
theorem mdRes_none {w w' : World} {r : Option (Int × List Int)} {e : Ending} (hr : r = none) (he : e = .returned (.tuple #[.agg #[.int .i64 0, .slice none 0 0], .bool false])) (h : Below w.heap.size w w') : MdRes w r e w' := by
  subst hr; exact ⟨he, h⟩
theorem OwnI.base {w : World} {b b' : Nat} {v : Value} {l : List Int} (h : OwnI w b v l) (hb : b' ≤ b) : OwnI w b' v l := by
  refine ⟨h.1, ?_⟩
  rcases h.2 with h0 | ⟨g, cap, cur, hv, hg, r⟩
  · exact .inl h0
  · exact .inr ⟨g, cap, cur, hv, Nat.le_trans hb hg, r⟩
set_option maxRecDepth 100000 in
set_option maxHeartbeats 4000000 in
theorem mread_any (W H D : Int) (Ak Ao : Option Addr) (ck co : Nat) (kind out : List Int) (s : ByteArray) (w : World) (h : RF W H D kind out) (hk : SlR w w.heap.size Ak kind) (ho : SlR w w.heap.size Ao out) (hs : s.size ≤ 20000) (he : Env w) :
    Calls Tryz.prog 32 #[.agg #[.int .i64 W, .int .i64 H, .int .i64 D, .slice Ak kind.length ck, .slice Ao out.length co], .string s] w (MdRes w (readMR W H D kind out s.data.toList)) := by
  have hsl := hid (size_list s)
  have hl0 : s.data.toList.length ≤ 20000 := by rw [← size_list]; exact hs
  obtain ⟨c, s1, bad1, hc, hl1, cI, r1⟩ := int_uni s.data.toList false (by omega)
  obtain ⟨q, s2, bad2, hq, hqn, hl2, cN, r2⟩ := nums_uni s1 bad1 (by omega) (by rcases r1 with ⟨_, rfl⟩ | ⟨_, _, rfl, _⟩ <;> simp)
  have hT := hid (show readM s.data.toList = if bad2 = true then none else some (c, q, s2) by
    unfold readM
    rcases r1 with ⟨h1, rfl⟩ | ⟨h1, rfl, rfl, rfl⟩
    · rcases r2 with ⟨h2, rfl⟩ | ⟨h2, rfl, rfl, rfl⟩
      · rw [h1]; simp [h2]
      · rw [h1]; simp [h2]
    · rcases r2 with ⟨h2, rfl⟩ | ⟨h2, rfl, rfl, rfl⟩
      · rw [h1]; simp
      · rw [h1]; simp)
  clear r1 r2
  have CI := hid cI
  have CN := hid cN
  clear cI cN
  have hI := hid h
  have Hq := hid hq
  clear h hq
  have hb0 := hid (show Below w.heap.size w ((w.alloc (Obj.cells #[.int .i64 W, .int .i64 H, .int .i64 D, .slice Ak kind.length ck, .slice Ao out.length co] 24)).alloc (Obj.cells #[.int .i64 0, .slice none 0 0] 48)) by (repeat (first | exact Below.refl _ _ | assumption | refine below_drewN ?_ _ | refine Below.drew ?_ | refine Below.alloc ?_ (by (try simp); (try omega)) _ | refine Below.setCell ?_ (by (try simp); (try omega)) _)))
  have bf := hid ((Blk.new w 24 #[.int .i64 W, .int .i64 H, .int .i64 D, .slice Ak kind.length ck, .slice Ao out.length co]).alloc (Obj.cells #[.int .i64 0, .slice none 0 0] 48))
  have bm := hid (show Blk ((w.alloc (Obj.cells #[.int .i64 W, .int .i64 H, .int .i64 D, .slice Ak kind.length ck, .slice Ao out.length co] 24)).alloc (Obj.cells #[.int .i64 0, .slice none 0 0] 48)) (w.heap.size + 1) 48 #[.int .i64 0, .slice none 0 0] from Blk.new_at (by simp))
  go_enter Tryz.func32, Tryz.ntmps32
  go_wp2_with fail
  refine (open_any s _).mono ?_
  rintro e w1 ⟨rfl, hR, hB⟩
  have hB1 := hid (hb0.out.trans (hB.mono hb0.out.size))
  have bf1 := hid (bf.out.below hB bf.out.lt)
  have bm1 := hid (bm.out.below hB bm.out.lt)
  clear hB hb0 bf bm
  generalize hbq : ((w.alloc (Obj.cells #[.int .i64 W, .int .i64 H, .int .i64 D, .slice Ak kind.length ck, .slice Ao out.length co] 24)).alloc (Obj.cells #[.int .i64 0, .slice none 0 0] 48)).heap.size = b at *
  have hwb : w.heap.size + 1 < b := by rw [← hbq]; simp
  clear hbq
  go_wp2_with fail
  refine (CI.out _ _ hR (he.below hB1.out)).mono ?_
  rintro e w2 ⟨rfl, hR2, hg⟩
  have hB2 := hid (hB1.out.grown hg hB1.out.size (fun k e => by injection e with e; omega))
  have bf2 := hid (Blk.grown bf1.out hg (fun e => by injection e with e; omega))
  have bm2 := hid (Blk.grown bm1.out hg (fun e => by injection e with e; omega))
  have hz2 := hR2.lt
  clear hR hB1 hg bf1 bm1 CI
  go_wp2_with fail
  refine (CN.out _ w _ hR2 he (by omega) hB2.out).mono ?_
  rintro e w3 ⟨A, c', rfl, hqc, hcm, hown, hsx, hR3, hg⟩
  have hB3 := hid (hB2.out.grown hg hB2.out.size (fun k e => by injection e with e; omega))
  have bf3 := hid (Blk.grown bf2.out hg (fun e => by injection e with e; omega))
  have bm3 := hid (Blk.grown bm2.out hg (fun e => by injection e with e; omega))
  have Hown := hid hown
  have hw2z := hB2.out.size
  clear hR2 hB2 hg bf2 bm2 CN hown
  have bq4 := hid (Blk.new w3 48 #[.int .i64 c, .slice A q.length c'])
  have hB4 := hid (hB3.out.alloc hB3.out.size (Obj.cells #[.int .i64 c, .slice A q.length c'] 48))
  have hd := done_any b s2 bad2 (w3.alloc (Obj.cells #[.int .i64 c, .slice A q.length c'] 48)) (Blk.alloc hR3 _)
  have Hown4 := hid (Hown.out.alloc (Obj.cells #[.int .i64 c, .slice A q.length c'] 48))
  have bf4 := hid (bf3.out.alloc (Obj.cells #[.int .i64 c, .slice A q.length c'] 48))
  have bm4 := hid (bm3.out.alloc (Obj.cells #[.int .i64 c, .slice A q.length c'] 48))
  clear hR3 hB3 Hown bf3 bm3 hsx
  cases hdn : (!bad2 && s2.isEmpty) with
  | false =>
    have hr := hid (show readMR W H D kind out s.data.toList = none by
      unfold readMR
      rw [hT.out]
      cases bad2 with
      | true => simp
      | false =>
        simp only [Bool.false_eq_true, if_false]
        rw [if_neg]
        rintro ⟨h1, _⟩
        subst h1
        simp at hdn)
    rw [hdn] at hd
    have Hd := hid hd
    clear hd hdn
    go_wp2_with fail
    refine Hd.out.mono ?_
    rintro e w5 ⟨rfl, hB⟩
    have hB5 := hid (hB4.out.trans (hB.mono hB4.out.size))
    have bm5 := bm4.out.below hB bm4.out.lt
    have r0 := bm5.cell 0; have r1 := bm5.cell 1
    have fr0 := bm5.frozen 0; have fr1 := bm5.frozen 1
    have lR := bm5.lt
    simp at r0 r1
    clear bm5 bm4 bf4 bq4 hB hB4
    go_wp2_with fail
    refine bodyPost_ret (v := .tuple #[.agg #[.int .i64 0, .slice none 0 0], .bool false]) (by simp [results, Tryz.results32, go_sem, r0, r1, fr0, fr1, lR]) rfl (mdRes_none hr.out rfl ?_)
    exact (hB5.out.setCell (by simp) _).setCell (by simp) _
  | true =>
    have hb3 : bad2 = false := by cases bad2 <;> simp_all
    have hs3 : s2 = [] := by cases s2 <;> simp_all
    rw [hdn] at hd
    have Hd := hid hd
    have hT2 := hid (show readM s.data.toList = some (c, q, []) by rw [hT.out, hb3, hs3]; simp)
    have hsp := hid (readM_split hT2.out).1
    clear hd hdn hb3 hs3
    go_wp2_with fail
    refine Hd.out.mono ?_
    rintro e w5 ⟨rfl, hB⟩
    have hB5 := hid (hB4.out.trans (hB.mono hB4.out.size))
    have bm5 := hid (bm4.out.below hB bm4.out.lt)
    have bf5 := hid (bf4.out.below hB bf4.out.lt)
    have bq5 := hid (bq4.out.below hB bq4.out.lt)
    have Hown5 := hid (Hown4.out.below hB)
    clear bm4 bf4 bq4 hB hB4 Hown4
    obtain ⟨k0, k1, k2, k3, k4⟩ := blk5 bf5.out
    obtain ⟨m0, m1⟩ := blk2 bq5.out
    have lF := bf5.out.lt; have lQ := bq5.out.lt
    obtain ⟨A9, c9, h9, _, _, hsq⟩ := Hown5.out.slr Hq.out
    simp only [Value.slice.injEq] at h9
    obtain ⟨rfl, _, rfl⟩ := h9
    go_wp2_with fail
    refine (right_any _ _ _ _ _ _ _ _ _ c A c' q w5 hI.out ((hk.below hB5.out).more hB5.out.size) ((ho.below hB5.out).more hB5.out.size) hsq (by unfold maxLen; omega)).mono ?_
    cases hrt : rightM W H D kind out c q with
    | false =>
      have hr := hid (show readMR W H D kind out s.data.toList = none by
        unfold readMR
        rw [hT2.out]
        simp [hrt])
      clear hrt
      rintro e w6 ⟨rfl, hB⟩
      have hB6 := hid (hB5.out.trans (hB.mono hB5.out.size))
      have bm6 := bm5.out.below hB bm5.out.lt
      have r0 := bm6.cell 0; have r1 := bm6.cell 1
      have fr0 := bm6.frozen 0; have fr1 := bm6.frozen 1
      have lR := bm6.lt
      simp at r0 r1
      clear bm6 bm5 bf5 bq5 hB hB5 k0 k1 k2 k3 k4 m0 m1 lF lQ
      go_wp2_with fail
      refine bodyPost_ret (v := .tuple #[.agg #[.int .i64 0, .slice none 0 0], .bool false]) (by simp [results, Tryz.results32, go_sem, r0, r1, fr0, fr1, lR]) rfl (mdRes_none hr.out rfl ?_)
      exact (hB6.out.setCell (by simp) _).setCell (by simp) _
    | true =>
      have hr := hid (show readMR W H D kind out s.data.toList = some (c, q) by
        unfold readMR
        rw [hT2.out]
        simp [hrt])
      have hq4 := (rightM_iff.1 hrt).2.2.1
      clear hrt
      rintro e w6 ⟨rfl, hB⟩
      have hB6 := hid (hB5.out.trans (hB.mono hB5.out.size))
      have bm6 := hid (bm5.out.below hB bm5.out.lt)
      have bq6 := hid (bq5.out.below hB bq5.out.lt)
      have Hown6 := hid (Hown5.out.below hB)
      clear bm5 bf5 bq5 hB hB5 k0 k1 k2 k3 k4 m0 m1 lF lQ Hown5 hsq
      obtain ⟨m0, m1⟩ := blk2 bq6.out
      have lQ := bq6.out.lt
      obtain ⟨A9, c9, h9, _, _, hsq⟩ := Hown6.out.slr Hq.out
      simp only [Value.slice.injEq] at h9
      obtain ⟨rfl, _, rfl⟩ := h9
      go_wp2_with fail
      refine (mbytes_any c A c' q w6 hc (by omega) hsq (he.below hB6.out)).mono ?_
      rintro e w7 ⟨rfl, hB⟩
      have hB7 := hid (hB6.out.trans (hB.mono hB6.out.size))
      have bm7 := hid (bm6.out.below hB bm6.out.lt)
      have bq7 := hid (bq6.out.below hB bq6.out.lt)
      have Hown7 := hid (Hown6.out.below hB)
      clear bm6 bq6 hB hB6 m0 m1 lQ Hown6 hsq
      obtain ⟨m0, m1⟩ := blk2 bq7.out
      have lQ := bq7.out.lt
      have r0 := bm7.out.cell 0; have r1 := bm7.out.cell 1
      have fr0 := bm7.out.frozen 0; have fr1 := bm7.out.frozen 1
      have lR := bm7.out.lt
      simp at r0 r1
      have heq : bs (encM c q) = s := by
        have h1 := hsp.out
        rw [List.append_nil] at h1
        rw [← h1, bs_of]
      have hc1 : ((bs (encM c q)).toList == s.toList) = true := by rw [heq]; simp
      have hc2 : ((bs (encM c q)).toList != s.toList) = false := by rw [heq]; simp
      clear heq
      go_wp2_with fail
      refine bodyPost_ret (v := .tuple #[.agg #[.int .i64 c, .slice A q.length c'], .bool true]) (by simp [results, Tryz.results32, go_sem, r0, r1, fr0, fr1, lR]) rfl ?_
      rw [hr.out]
      have hO := Hown7.out.keptb (grown_trans (grown_set w7 (w.heap.size + 1) 0 (.int .i64 c)) (grown_set _ (w.heap.size + 1) 1 (.slice A q.length c'))) (by omega)
      obtain ⟨A9, c9, h9, h91, h92, hsq⟩ := hO.slr Hq.out
      simp only [Value.slice.injEq] at h9
      obtain ⟨rfl, _, rfl⟩ := h9
      exact ⟨A, c', rfl, h91, h92, hO.base (by omega), hsq, (hB7.out.setCell (by simp) _).setCell (by simp) _⟩
end Go.Proofs.YtnnephifjikkdaaGreatDoor
