
/- Robots: the reference's Read (chapter 22). -/
import Derived.Test.YtnnephifjikkdaaGreatDoorRobWf
import Derived.Test.YtnnephifjikkdaaGreatDoorRobD
set_option linter.unusedSimpArgs false
set_option linter.unusedVariables false
namespace Go.Proofs.YtnnephifjikkdaaGreatDoor
open Go.RowKit Go.IntWalk

/-- A mind that was read, or none; its queue's place is left open. -/
def MdRr (w : World) (r : Option (Int × List Int)) (e : Ending) (w' : World) : Prop :=
  match r with
  | some (c, q) => ∃ A cq, e = .returned (.tuple #[.agg #[.int .i64 c, .slice A q.length cq], .bool true]) ∧ SlR w' w'.heap.size A q ∧ Below w.heap.size w w'
  | none => e = .returned (.tuple #[.agg #[.int .i64 0, .slice none 0 0], .bool false]) ∧ Below w.heap.size w w'
theorem mdRr_none {w w' : World} {r : Option (Int × List Int)} {e : Ending} (hr : r = none) (he : e = .returned (.tuple #[.agg #[.int .i64 0, .slice none 0 0], .bool false])) (h : Below w.heap.size w w') : MdRr w r e w' := by
  subst hr; exact ⟨he, h⟩
theorem mdRr_some {w w' : World} {r : Option (Int × List Int)} {e : Ending} {c : Int} {q : List Int} {A : Option Addr} {cq : Nat} (hr : r = some (c, q)) (he : e = .returned (.tuple #[.agg #[.int .i64 c, .slice A q.length cq], .bool true])) (h1 : SlR w' w'.heap.size A q) (h : Below w.heap.size w w') : MdRr w r e w' := by
  subst hr; exact ⟨A, cq, he, h1, h⟩
set_option maxRecDepth 100000 in
set_option maxHeartbeats 4000000 in
theorem rfmread_any (W H D : Int) (Ak Ao : Option Addr) (ck co : Nat) (kind out : List Int) (s : ByteArray) (w : World) (h : RF W H D kind out) (hk : SlR w w.heap.size Ak kind) (ho : SlR w w.heap.size Ao out) (hs : s.size ≤ 20000) :
    Calls Tryz.prog 33 #[.agg #[.int .i64 W, .int .i64 H, .int .i64 D, .slice Ak kind.length ck, .slice Ao out.length co], .string s] w (MdRr w (readMR W H D kind out s.data.toList)) := by
  have hsl := hid (size_list s)
  have hl0 : s.data.toList.length ≤ 20000 := by rw [← size_list]; exact hs
  obtain ⟨c, s1, bad1, hc, hl1, cI, r1⟩ := int_uniR s.data.toList false (by omega)
  obtain ⟨q, s2, bad2, hq, hqn, hl2, cN, r2⟩ := nums_uniR s1 bad1 (by omega) (by rcases r1 with ⟨_, rfl⟩ | ⟨_, _, rfl, _⟩ <;> simp)
  have hT := hid (show readM s.data.toList = if bad2 = true then none else some (c, q, s2) by
    unfold readM
    rcases r1 with ⟨h1, rfl⟩ | ⟨h1, rfl, rfl, rfl⟩
    · rcases r2 with ⟨h2, rfl⟩ | ⟨h2, rfl, rfl, rfl⟩
      · rw [h1]; simp [h2]
      · rw [h1]; simp [h2]
    · rcases r2 with ⟨h2, rfl⟩ | ⟨h2, rfl, rfl, rfl⟩
      · rw [h1]; simp
      · rw [h1]; simp)
  clear r1 r2
  have CI := hid cI
  have CN := hid cN
  clear cI cN
  have hI := hid h
  have Hq := hid hq
  clear h hq
  have hb0 := hid (show Below w.heap.size w ((w.alloc (Obj.cells #[.int .i64 W, .int .i64 H, .int .i64 D, .slice Ak kind.length ck, .slice Ao out.length co] 24)).alloc (Obj.cells #[.int .i64 0, .slice none 0 0] 48)) by (repeat (first | exact Below.refl _ _ | assumption | refine below_drewN ?_ _ | refine Below.drew ?_ | refine Below.alloc ?_ (by (try simp); (try omega)) _ | refine Below.setCell ?_ (by (try simp); (try omega)) _)))
  have bf := hid ((Blk.new w 24 #[.int .i64 W, .int .i64 H, .int .i64 D, .slice Ak kind.length ck, .slice Ao out.length co]).alloc (Obj.cells #[.int .i64 0, .slice none 0 0] 48))
  have bm := hid (show Blk ((w.alloc (Obj.cells #[.int .i64 W, .int .i64 H, .int .i64 D, .slice Ak kind.length ck, .slice Ao out.length co] 24)).alloc (Obj.cells #[.int .i64 0, .slice none 0 0] 48)) (w.heap.size + 1) 48 #[.int .i64 0, .slice none 0 0] from Blk.new_at (by simp))
  go_enter Tryz.func33, Tryz.ntmps33
  go_wp2_with fail
  refine (openR_any s _).mono ?_
  rintro e w1 ⟨rfl, hR, hB⟩
  have hB1 := hid (hb0.out.trans (hB.mono hb0.out.size))
  have bf1 := hid (bf.out.below hB bf.out.lt)
  have bm1 := hid (bm.out.below hB bm.out.lt)
  clear hB hb0 bf bm
  generalize hbq : ((w.alloc (Obj.cells #[.int .i64 W, .int .i64 H, .int .i64 D, .slice Ak kind.length ck, .slice Ao out.length co] 24)).alloc (Obj.cells #[.int .i64 0, .slice none 0 0] 48)).heap.size = b at *
  have hwb : w.heap.size + 1 < b := by rw [← hbq]; simp
  clear hbq
  go_wp2_with fail
  have hB2 := hid (hB1.out.alloc hB1.out.size (Obj.cells #[.int .i64 0, .slice none 0 0] 48))
  have bf2 := hid (bf1.out.alloc (Obj.cells #[.int .i64 0, .slice none 0 0] 48))
  have bm2 := hid (bm1.out.alloc (Obj.cells #[.int .i64 0, .slice none 0 0] 48))
  have bt2 := hid (Blk.new w1 48 #[.int .i64 0, .slice none 0 0])
  have hR2 : Rr (w1.alloc (Obj.cells #[.int .i64 0, .slice none 0 0] 48)) b s.data.toList false := Blk.alloc hR _
  have hbg : b < w1.heap.size := hR.lt
  clear hR hB1 bf1 bm1
  refine (CI.out _ _ hR2).mono ?_
  rintro e w3 ⟨rfl, hR3, hg⟩
  have hB3 := hid (hB2.out.grown hg hB2.out.size (fun k e => by injection e with e; omega))
  have bf3 := hid (Blk.grown bf2.out hg (fun e => by injection e with e; omega))
  have bm3 := hid (Blk.grown bm2.out hg (fun e => by injection e with e; omega))
  have bt3 := hid (Blk.grown bt2.out hg (fun e => by injection e with e; omega))
  clear hR2 hB2 bf2 bm2 bt2 hg CI
  generalize w1.heap.size = g at *
  have t0 := bt3.out.cell 0; have tf0 := bt3.out.frozen 0; have tl := bt3.out.lt
  simp at t0
  go_wp2_with fail
  have hR4 : Rr (w3.setCell ⟨g, 0, none⟩ (.int .i64 c)) b s1 bad1 := Blk.far hR3 (by simp; omega) _
  have hB4 := hid (hB3.out.setCell (p := ⟨g, 0, none⟩) (by simp; omega) (.int .i64 c))
  have bf4 := hid (bf3.out.far (p := ⟨g, 0, none⟩) (by simp; omega) (.int .i64 c))
  have bm4 := hid (bm3.out.far (p := ⟨g, 0, none⟩) (by simp; omega) (.int .i64 c))
  have bt4 := hid (show Blk (w3.setCell ⟨g, 0, none⟩ (.int .i64 c)) g 48 #[.int .i64 c, .slice none 0 0] by simpa using bt3.out.set_ 0 (.int .i64 c))
  have zg : g < w3.heap.size := tl
  clear hR3 hB3 bf3 bm3 bt3 t0 tf0 tl
  refine (CN.out _ _ hR4).mono ?_
  rintro e w5 ⟨A, c', rfl, hown, hR5, hg⟩
  have hB5 := hid (hB4.out.grown hg hB4.out.size (fun k e => by injection e with e; omega))
  have bf5 := hid (Blk.grown bf4.out hg (fun e => by injection e with e; omega))
  have bm5 := hid (Blk.grown bm4.out hg (fun e => by injection e with e; omega))
  have bt5 := hid (Blk.grown bt4.out hg (fun e => by injection e with e; omega))
  clear hR4 hB4 bf4 bm4 bt4 hg CN
  have t1 := bt5.out.cell 1; have tf1 := bt5.out.frozen 1; have tl := bt5.out.lt
  simp at t1
  go_wp2_with fail
  have hR6 : Rr (w5.setCell ⟨g, 1, none⟩ (.slice A q.length c')) b s2 bad2 := Blk.far hR5 (by simp; omega) _
  have hB6 := hid (hB5.out.setCell (p := ⟨g, 1, none⟩) (by simp; omega) (.slice A q.length c'))
  have bf6 := hid (bf5.out.far (p := ⟨g, 1, none⟩) (by simp; omega) (.slice A q.length c'))
  have bm6 := hid (bm5.out.far (p := ⟨g, 1, none⟩) (by simp; omega) (.slice A q.length c'))
  have bt6 := hid (show Blk (w5.setCell ⟨g, 1, none⟩ (.slice A q.length c')) g 48 #[.int .i64 c, .slice A q.length c'] by simpa using bt5.out.set_ 1 (.slice A q.length c'))
  have hO6 := hid (hown.far (p := ⟨g, 1, none⟩) (hown.past (by simp; omega)) (.slice A q.length c'))
  have hbs : w.heap.size + 1 < (w3.setCell ⟨g, 0, none⟩ (.int .i64 c)).heap.size := by simp; omega
  generalize (w3.setCell ⟨g, 0, none⟩ (.int .i64 c)).heap.size = bs9 at *
  clear hR5 hB5 bf5 bm5 bt5 hown t1 tf1 tl
  generalize w5.setCell ⟨g, 1, none⟩ (.slice A q.length c') = w6 at *
  have hd := doneR_any b s2 bad2 w6 hR6
  clear hR6
  cases hdn : (!bad2 && s2.isEmpty) with
  | false =>
    have hr := hid (show readMR W H D kind out s.data.toList = none by
      unfold readMR
      rw [hT.out]
      cases bad2 with
      | true => simp
      | false =>
        simp only [Bool.false_eq_true, if_false]
        rw [if_neg]
        rintro ⟨h1, _⟩
        subst h1
        simp at hdn)
    rw [hdn] at hd
    clear hdn
    refine hd.mono ?_
    rintro e w7 ⟨rfl, hB⟩
    have hB7 := hid (hB6.out.trans (hB.mono hB6.out.size))
    have bm7 := bm6.out.below hB bm6.out.lt
    have r0 := bm7.cell 0; have r1 := bm7.cell 1
    have fr0 := bm7.frozen 0; have fr1 := bm7.frozen 1
    have lR := bm7.lt
    simp at r0 r1
    clear bm7 bm6 bf6 bt6 hB hB6 hd
    go_wp2_with fail
    refine bodyPost_ret (v := .tuple #[.agg #[.int .i64 0, .slice none 0 0], .bool false]) (by simp [results, Tryz.results33, go_sem, r0, r1, fr0, fr1, lR]) rfl (mdRr_none hr.out rfl ?_)
    exact (hB7.out.setCell (by simp) _).setCell (by simp) _
  | true =>
    have hb3 : bad2 = false := by cases bad2 <;> simp_all
    have hs3 : s2 = [] := by cases s2 <;> simp_all
    rw [hdn] at hd
    have hT2 := hid (show readM s.data.toList = some (c, q, []) by rw [hT.out, hb3, hs3]; simp)
    have hsp := hid (readM_split hT2.out).1
    clear hdn hb3 hs3
    refine hd.mono ?_
    rintro e w7 ⟨rfl, hB⟩
    have hB7 := hid (hB6.out.trans (hB.mono hB6.out.size))
    have bm7 := hid (bm6.out.below hB bm6.out.lt)
    have bf7 := hid (bf6.out.below hB bf6.out.lt)
    have bt7 := hid (bt6.out.below hB bt6.out.lt)
    have hO7 := hid (hO6.out.below hB)
    clear bm6 bf6 bt6 hB hB6 hO6 hd
    obtain ⟨k0, k1, k2, k3, k4⟩ := blk5 bf7.out
    obtain ⟨m0, m1⟩ := blk2 bt7.out
    have lF := bf7.out.lt; have lQ := bt7.out.lt
    obtain ⟨A9, c9, h9, _, _, hsq⟩ := hO7.out.slr Hq.out
    simp only [Value.slice.injEq] at h9
    obtain ⟨rfl, _, rfl⟩ := h9
    go_wp2_with fail
    refine (rfright_any W H D Ak Ao ck co kind out c A c' q w7 hI.out ((hk.below hB7.out).more hB7.out.size) ((ho.below hB7.out).more hB7.out.size) hsq (by unfold maxLen; omega)).mono ?_
    cases hrt : rightM W H D kind out c q with
    | false =>
      have hr := hid (show readMR W H D kind out s.data.toList = none by
        unfold readMR
        rw [hT2.out]
        simp [hrt])
      clear hrt
      rintro e w8 ⟨rfl, hB⟩
      have hB8 := hid (hB7.out.trans (hB.mono hB7.out.size))
      have bm8 := bm7.out.below hB bm7.out.lt
      have r0 := bm8.cell 0; have r1 := bm8.cell 1
      have fr0 := bm8.frozen 0; have fr1 := bm8.frozen 1
      have lR := bm8.lt
      simp at r0 r1
      clear bm8 bm7 bf7 bt7 hB hB7 k0 k1 k2 k3 k4 m0 m1 lF lQ
      go_wp2_with fail
      refine bodyPost_ret (v := .tuple #[.agg #[.int .i64 0, .slice none 0 0], .bool false]) (by simp [results, Tryz.results33, go_sem, r0, r1, fr0, fr1, lR]) rfl (mdRr_none hr.out rfl ?_)
      exact (hB8.out.setCell (by simp) _).setCell (by simp) _
    | true =>
      have hr := hid (show readMR W H D kind out s.data.toList = some (c, q) by
        unfold readMR
        rw [hT2.out]
        simp [hrt])
      have hq4 := (rightM_iff.1 hrt).2.2.1
      clear hrt
      rintro e w8 ⟨rfl, hB⟩
      have hB8 := hid (hB7.out.trans (hB.mono hB7.out.size))
      have bm8 := hid (bm7.out.below hB bm7.out.lt)
      have bt8 := hid (bt7.out.below hB bt7.out.lt)
      have hO8 := hid (hO7.out.below hB)
      clear bm7 bf7 bt7 hB hB7 k0 k1 k2 k3 k4 m0 m1 lF lQ hO7 hsq
      obtain ⟨m0, m1⟩ := blk2 bt8.out
      have lQ := bt8.out.lt
      obtain ⟨A9, c9, h9, _, _, hsq⟩ := hO8.out.slr Hq.out
      simp only [Value.slice.injEq] at h9
      obtain ⟨rfl, _, rfl⟩ := h9
      go_wp2_with fail
      refine (rfmbytes_any c A c' q w8 hc (by omega) hsq).mono ?_
      rintro e w9 ⟨rfl, hB⟩
      have hB9 := hid (hB8.out.trans (hB.mono hB8.out.size))
      have bm9 := hid (bm8.out.below hB bm8.out.lt)
      have bt9 := hid (bt8.out.below hB bt8.out.lt)
      have hO9 := hid (hO8.out.below hB)
      clear bm8 bt8 hB hB8 m0 m1 lQ hO8 hsq
      obtain ⟨m0, m1⟩ := blk2 bt9.out
      have lQ := bt9.out.lt
      have r0 := bm9.out.cell 0; have r1 := bm9.out.cell 1
      have fr0 := bm9.out.frozen 0; have fr1 := bm9.out.frozen 1
      have lR := bm9.out.lt
      simp at r0 r1
      have heq : bs (encM c q) = s := by
        have h1 := hsp.out
        rw [List.append_nil] at h1
        rw [← h1, bs_of]
      have hc1 : ((bs (encM c q)).toList == s.toList) = true := by rw [heq]; simp
      have hc2 : ((bs (encM c q)).toList != s.toList) = false := by rw [heq]; simp
      clear heq
      go_wp2_with fail
      refine bodyPost_ret (v := .tuple #[.agg #[.int .i64 c, .slice A q.length c'], .bool true]) (by simp [results, Tryz.results33, go_sem, r0, r1, fr0, fr1, lR]) rfl ?_
      have hO := hO9.out.keptb (grown_trans (grown_set w9 (w.heap.size + 1) 0 (.int .i64 c)) (grown_set _ (w.heap.size + 1) 1 (.slice A q.length c'))) (by omega)
      obtain ⟨A9, c9, h9, h91, h92, hsq⟩ := hO.slr Hq.out
      simp only [Value.slice.injEq] at h9
      obtain ⟨rfl, _, rfl⟩ := h9
      exact mdRr_some hr.out rfl hsq ((hB9.out.setCell (by simp) _).setCell (by simp) _)
end Go.Proofs.YtnnephifjikkdaaGreatDoor
