
/- Journal: Append. -/
import Derived.Test.YtbefmjodpndndaaDoorJoE
set_option linter.unusedSimpArgs false
set_option linter.unusedVariables false
namespace Go.Proofs.YtbefmjodpndndaaDoor
open Go.RowKit Go.IntWalk

/-- A journal in memory: its disk, its cell, its own block, its list. -/
structure JM (w : World) (base jk b cb : Nat) (L : DL) (s : DS) (jb : Int) (v : Value) (l : List ByteArray) (slot : Nat) (cv : Bs) (u br : Bool) (N : Nat) : Prop where
  H : Dsk w base b L s N
  X : Blk w cb 86 #[.pointer (some ⟨b, 0, none⟩), .int .i64 (jb + 1), .int .i64 (slot : Int), .string (bs cv), .bool u]
  J : Blk w jk 71 #[.pointer (some ⟨b, 0, none⟩), .int .i64 jb, .pointer (some ⟨cb, 0, none⟩), v, .int .i64 ((formB l).length : Nat), .bool br]
  l : LOwn w base v l
  hj : base ≤ jk
  hc : base ≤ cb
  E : EB base w
/-- What a call on a journal may write. -/
def JF (b cb jk : Nat) (L : DL) (v : Value) (k : Nat) : Prop := DFP b L k ∨ k = cb ∨ k = jk ∨ v.ownBlock = some k
section
variable {w w' : World} {base jk b cb : Nat} {L : DL} {s : DS} {jb : Int} {v : Value} {l : List ByteArray} {slot : Nat} {cv : Bs} {u br : Bool} {N N2 : Nat}
theorem JM.base_ (h : JM w base jk b cb L s jb v l slot cv u br N) {k : Nat} (hk : JF b cb jk L v k) : base ≤ k ∧ k < w.heap.size := by
  rcases hk with hk | rfl | rfl | hk
  · exact h.H.lt hk
  · exact ⟨h.hc, h.X.lt⟩
  · exact ⟨h.hj, h.J.lt⟩
  · obtain ⟨h1, h2, _⟩ := h.l.blk hk
    exact ⟨h1, h2⟩
theorem JM.below (h : JM w base jk b cb L s jb v l slot cv u br N) (hb : Below w.heap.size w w') : JM w' base jk b cb L s jb v l slot cv u br N :=
  ⟨h.H.below hb, h.X.below hb h.X.lt, h.J.below hb h.J.lt, h.l.below hb, h.hj, h.hc, h.E.below hb⟩
theorem JM.mono (h : JM w base jk b cb L s jb v l slot cv u br N) (hN : N ≤ N2) : JM w base jk b cb L s jb v l slot cv u br N2 := ⟨h.H.mono hN, h.X, h.J, h.l, h.hj, h.hc, h.E⟩
theorem JM.jc (h : JM w base jk b cb L s jb v l slot cv u br N) : jk ≠ cb := h.J.ne_ h.X (by decide)
theorem JM.apart (h : JM w base jk b cb L s jb v l slot cv u br N) : ∀ k, DFP b L k → k ≠ cb ∧ k ≠ jk ∧ v.ownBlock ≠ some k := fun k hk =>
  ⟨h.H.ne_blk h.X (by decide) (by decide) (by decide) k hk, h.H.ne_blk h.J (by decide) (by decide) (by decide) k hk, fun e => by
    obtain ⟨_, _, cs, hb⟩ := h.l.blk e
    exact h.H.ne_blk hb (by decide) (by decide) (by decide) k hk rfl⟩
theorem JM.vne (h : JM w base jk b cb L s jb v l slot cv u br N) : v.ownBlock ≠ some jk ∧ v.ownBlock ≠ some cb := by
  refine ⟨fun e => ?_, fun e => ?_⟩
  · obtain ⟨_, _, cs, hb⟩ := h.l.blk e
    exact hb.ne_ h.J (by decide) rfl
  · obtain ⟨_, _, cs, hb⟩ := h.l.blk e
    exact hb.ne_ h.X (by decide) rfl
/-- The disk changes. -/
theorem JM.dsk (h : JM w base jk b cb L s jb v l slot cv u br N) {L2 : DL} {s2 : DS} (hD : Dsk w' base b L2 s2 N2) (hC : Chg w w' (DFP b L)) : JM w' base jk b cb L2 s2 jb v l slot cv u br N2 :=
  ⟨hD, hC.blk h.X (fun e => (h.apart _ e).1 rfl), hC.blk h.J (fun e => (h.apart _ e).2.1 rfl), h.l.kept (fun g cs hg hb => hC.blk hb (fun e => (h.apart _ e).2.2 hg)), h.hj, h.hc, h.E.dsk h.H hC⟩
/-- The journal's own block changes. -/
theorem JM.own (h : JM w base jk b cb L s jb v l slot cv u br N) (hg : w.grownBy w' (some jk)) {v2 : Value} {l2 : List ByteArray} {br2 : Bool} (hJ : Blk w' jk 71 #[.pointer (some ⟨b, 0, none⟩), .int .i64 jb, .pointer (some ⟨cb, 0, none⟩), v2, .int .i64 ((formB l2).length : Nat), .bool br2]) (hl : LOwn w' base v2 l2) : JM w' base jk b cb L s jb v2 l2 slot cv u br2 N := by
  have hC : Chg w w' (fun k => k = jk) := Chg.of_grown hg (fun k e => by injection e)
  exact ⟨h.H.chg hC (fun k hk => (h.apart k hk).2.1), hC.blk h.X (fun e => h.jc e.symm), hJ, hl, h.hj, h.hc, h.E.chg hC (fun k e => by rw [e]; exact h.hj)⟩
/-- The cell was set. -/
theorem JM.cset (h : JM w base jk b cb L s jb v l slot cv u br N) {L2 : DL} {s2 : DS} {slot2 : Nat} {cv2 : Bs} {u2 : Bool} (k : CS w w' base b cb L L2 s s2 (jb + 1) slot2 cv2 u2 N2) : JM w' base jk b cb L2 s2 jb v l slot2 cv2 u2 br N2 :=
  ⟨k.H, k.X, k.C.blk h.J (fun e => e.elim (fun e => (h.apart _ e).2.1 rfl) (fun e => h.jc e)), h.l.kept (fun g cs hg hb => k.C.blk hb (fun e => e.elim (fun e => (h.apart _ e).2.2 hg) (fun e => h.vne.2 (by rw [hg, e])))), h.hj, h.hc, h.E.chg k.C (fun q hq => hq.elim (fun e => (h.H.lt e).1) (fun e => by rw [e]; exact h.hc))⟩
end
theorem CSRes.val {w w' : World} {base b cb : Nat} {L : DL} {s : DS} {f : Int} {slot : Nat} {v v' : Bs} {N : Nat} {e : Ending} (h : CSRes w base b cb L s f slot v v' N e w') : ∃ x, e = .returned x ∧ CSRes w base b cb L s f slot v v' N (.returned x) w' := by
  obtain ⟨ec, L', s', a, b, c, rfl, h⟩ := h
  exact ⟨_, rfl, ec, L', s', a, b, c, rfl, h⟩
theorem calls_int (n : Int) (h : I64 n) (base : Nat) (w0 : World) (he : EB base w0) (W : World) (hW : Below w0.heap.size w0 W) : Calls Tryd.prog 9 #[.int .i64 n] W fun e w' => e = .returned (.string (bs (encI n))) ∧ Below W.heap.size W w' := wInt_any n h W (he.below hW).env
/-- How note ends. -/
def NoteRes (w : World) (base jk b cb : Nat) (L : DL) (s : DS) (jb : Int) (v : Value) (l : List ByteArray) (slot : Nat) (cv v' : Bs) (N : Nat) (x : Value) (w' : World) : Prop :=
  ∃ (ec : Int) (L' : DL) (s' : DS) (slot2 : Nat) (v2 : Bs) (u2 : Bool), x = .int .i64 ec ∧ CSet s s' (jb + 1) slot cv v' ec ∧ (ec = 0 → slot2 = nslot slot ∧ v2 = v') ∧ JM w' base jk b cb L' s' jb v l slot2 v2 u2 (!decide (ec = 0)) N ∧ Chg w w' (JF b cb jk L v) ∧ ∀ k, DFP b L' k → DFP b L k ∨ w.heap.size ≤ k
set_option maxRecDepth 100000 in
set_option maxHeartbeats 8000000 in
theorem note_any (base jk b cb : Nat) (L : DL) (s : DS) (jb : Int) (v : Value) (l : List ByteArray) (slot : Nat) (cv : Bs) (u br : Bool) (N : Nat) (by_ n : Int) (w : World) (h : JM w base jk b cb L s jb v l slot cv u br N) (hd : s.down = false) (hj : 0 ≤ jb ∧ jb ≤ 14) (hfl : (s.fl (jb + 1)).2 = (s.fl (jb + 1)).1) (hs : CellSays (s.fl (jb + 1)).1 slot cv) (hy : I64 by_) (hn : I64 n) (hN : N + 120 ≤ 50000000) (hbase : base ≤ w.heap.size) :
    Calls Tryd.prog 42 #[.pointer (some ⟨jk, 0, none⟩), .int .i64 by_, .int .i64 n] w fun e w' => ∃ x, e = .returned x ∧ NoteRes w base jk b cb L s jb v l slot cv (encI by_ ++ encI n) (N + 120) x w' := by
  have HJ := hid h
  have HI1 := hid (calls_int by_ hy base w h.E)
  have HI2 := hid (calls_int n hn base w h.E)
  have l1 := encI_le22 by_ hy
  have l2 := encI_le22 n hn
  have HCS := hid (fun (W : World) (hW : Below w.heap.size w W) => cset_any b base cb L s N (jb + 1) slot cv (encI by_ ++ encI n) u W (HJ.out.H.below hW) ((HJ.out.below hW).X) (HJ.out.E.below hW).off h.E.1 h.hc hd ⟨by omega, by omega⟩ hfl hs (by rw [List.length_append]; omega) (by simp [encI_ne]) (by rw [List.length_append]; omega) (Nat.le_trans hbase hW.size))
  have HSF := hid (fun (wq : World) (hq : Below w.heap.size w wq) => show wq.cell? ⟨jk, 2, none⟩ = some (.pointer (some ⟨cb, 0, none⟩)) ∧ jk < wq.heap.size from by have K := HJ.out.below hq; exact ⟨K.J.cell 2, K.J.lt⟩)
  have hsz := sz44 by_ n hy hn
  have hs1 := sz22 by_ hy
  have hs2 := sz22 n hn
  have HLEN := hid (show (encI by_ ++ encI n).length ≤ 44 by rw [List.length_append]; omega)
  have e4 : bs (encI by_) ++ bs (encI n) = bs (encI by_ ++ encI n) := bs_app _ _
  obtain ⟨v', hv'⟩ : ∃ v', v' = encI by_ ++ encI n := ⟨_, rfl⟩
  rw [← hv'] at HCS HLEN ⊢
  have hcat : bs (encI by_) ++ bs (encI n) = bs v' := by rw [hv']; exact e4
  have hov : ¬ 9223372036854775807 < (bs (encI by_)).size + (bs (encI n)).size := by omega
  have HCAT := hid hcat
  clear h hd hfl hs hy hn hv' e4 hcat hsz l1 l2
  go_enter Tryd.func42, Tryd.ntmps42
  go_upto_region 1 with fail
  have BD := hid ((Below.refl w.heap.size w).drew)
  refine wpIn_wide.1 (wpIn_region_S (n := 0) (fun wq => Below w.heap.size w wq) [9] (by kernel_rfl) BD.out (fun hHeld => ?_))
  generalize w.drew = wd at *
  refine wpAnyS_pure 0 (v := ?_) (fun _ => trivial) (by simp only [List.getElem?_toArray, List.getElem?_cons_succ, List.getElem?_cons_zero]; rfl) (by kernel_rfl) (fun _ _ _ _ _ h => h) ⟨rfl, (by intro c h; cases h), ?_⟩ hHeld ?_
  rotate_left
  focus (intro wS hSw; (try replace hSw := HSF.out wS hSw); (try dsimp only at hSw); go_simp; (try with_reducible rfl))
  (try simp only [Act.put, List.setIfInBounds_toArray, List.set_cons_zero, List.set_cons_succ])
  refine wpAnyS_pure 1 (v := ?_) (fun _ => trivial) (by simp only [List.getElem?_toArray, List.getElem?_cons_succ, List.getElem?_cons_zero]; rfl) (by kernel_rfl) (fun _ _ _ _ _ h => h) ⟨rfl, (by intro c h; cases h), ?_⟩ hHeld ?_
  rotate_left
  focus (intro wS hSw; (try replace hSw := HSF.out wS hSw); (try dsimp only at hSw); go_simp; (try with_reducible rfl))
  (try simp only [Act.put, List.setIfInBounds_toArray, List.set_cons_zero, List.set_cons_succ])
  refine wpAnyS_pure 2 (v := ?_) (fun _ => trivial) (by simp only [List.getElem?_toArray, List.getElem?_cons_succ, List.getElem?_cons_zero]; rfl) (by kernel_rfl) (fun _ _ _ _ _ h => h) ⟨rfl, (by intro c h; cases h), ?_⟩ hHeld ?_
  rotate_left
  focus (intro wS hSw; (try replace hSw := HSF.out wS hSw); (try dsimp only at hSw); go_simp; (try with_reducible rfl))
  (try simp only [Act.put, List.setIfInBounds_toArray, List.set_cons_zero, List.set_cons_succ])
  refine wpAnyS_take 3 (v := ?_) (fun _ => trivial) (by simp only [List.getElem?_toArray, List.getElem?_cons_succ, List.getElem?_cons_zero]; rfl) (by kernel_rfl) (fun _ _ _ _ _ h => h) ⟨rfl, (by intro c h; cases h), ?_⟩ hHeld ?_
  rotate_left
  focus (intro wS hSw; (try replace hSw := HSF.out wS hSw); (try dsimp only at hSw); go_simp; (try with_reducible rfl))
  (try simp only [Act.put, List.setIfInBounds_toArray, List.set_cons_zero, List.set_cons_succ])
  refine wpAnyS_pure 4 (v := ?_) (fun _ => trivial) (by simp only [List.getElem?_toArray, List.getElem?_cons_succ, List.getElem?_cons_zero]; rfl) (by kernel_rfl) (fun _ _ _ _ _ h => h) ⟨rfl, (by intro c h; cases h), ?_⟩ hHeld ?_
  rotate_left
  focus (intro wS hSw; (try replace hSw := HSF.out wS hSw); (try dsimp only at hSw); go_simp; (try with_reducible rfl))
  (try simp only [Act.put, List.setIfInBounds_toArray, List.set_cons_zero, List.set_cons_succ])
  refine wpAnyS_pure 6 (v := ?_) (fun _ => trivial) (by simp only [List.getElem?_toArray, List.getElem?_cons_succ, List.getElem?_cons_zero]; rfl) (by kernel_rfl) (fun _ _ _ _ _ h => h) ⟨rfl, (by intro c h; cases h), ?_⟩ hHeld ?_
  rotate_left
  focus (intro wS hSw; (try replace hSw := HSF.out wS hSw); (try dsimp only at hSw); go_simp; (try with_reducible rfl))
  (try simp only [Act.put, List.setIfInBounds_toArray, List.set_cons_zero, List.set_cons_succ])
  refine wpAnyS_ready [5] (by kernel_rfl) (by simp) (AllReadyS.consG (by simp only [List.getElem?_toArray, List.getElem?_cons_succ, List.getElem?_cons_zero]; rfl) (by rfl) (fun K hK => ?_) AllReadyS.nil)
  refine callS (by intro c h; cases h) (by go_simp; try with_reducible rfl) (HI1.out wd BD.out) ?_
  intro w2 hBq
  have B2 := hid (BD.out.trans (hBq.mono BD.out.size))
  refine hK.out _ _ B2.out ?_
  (try simp only [Act.put, List.setIfInBounds_toArray, List.set_cons_zero, List.set_cons_succ])
  clear hK K hBq
  clear hHeld
  have hHeld := B2.out
  refine wpAnyS_ready [7] (by kernel_rfl) (by simp) (AllReadyS.consG (by simp only [List.getElem?_toArray, List.getElem?_cons_succ, List.getElem?_cons_zero]; rfl) (by rfl) (fun K hK => ?_) AllReadyS.nil)
  refine callS (by intro c h; cases h) (by go_simp; try with_reducible rfl) (HI2.out w2 B2.out) ?_
  intro w3 hBq
  have B3 := hid (B2.out.trans (hBq.mono B2.out.size))
  refine hK.out _ _ B3.out ?_
  (try simp only [Act.put, List.setIfInBounds_toArray, List.set_cons_zero, List.set_cons_succ])
  clear hK K hBq
  clear hHeld
  have hHeld := B3.out
  have HC3 := hid ((HCS.out w3 B3.out).mono fun _ _ h => h.val)
  have K3 := hid (HJ.out.below B3.out)
  refine wpAnyS_pure 8 (v := ?_) (fun _ => trivial) (by simp only [List.getElem?_toArray, List.getElem?_cons_succ, List.getElem?_cons_zero]; rfl) (by kernel_rfl) (fun _ _ _ _ _ h => h) ⟨rfl, (by intro c h; cases h), ?_⟩ hHeld ?_
  rotate_left
  focus (intro wS hSw; (try replace hSw := HSF.out wS hSw); (try dsimp only at hSw); go_simp; (try with_reducible rfl))
  (try simp only [Act.put, List.setIfInBounds_toArray, List.set_cons_zero, List.set_cons_succ])
  rw [HCAT.out]
  refine wpAnyS_ready [9] (by kernel_rfl) (by simp) (AllReadyS.consL (by simp only [List.getElem?_toArray, List.getElem?_cons_succ, List.getElem?_cons_zero]; rfl) rfl (by kernel_rfl) (fun K hK => ?_) AllReadyS.nil)
  refine callV (by intro c h; cases h) (by go_simp; try with_reducible rfl) HC3.out ?_
  intro x w4 hR
  obtain ⟨ec, L4, s4, slot2, v2, u2, hx, hcs, hK4, hnew⟩ := hR
  injection hx with hx
  subst hx
  have HCSET := hid hcs
  have HNEW := hid hnew
  have HK4 := hid hK4
  refine hK.out _ _ ?_
  (try simp only [Act.put, List.setIfInBounds_toArray, List.set_cons_zero, List.set_cons_succ])
  clear hK K hHeld hcs hK4 hnew HC3 HCS HSF
  refine wpAnyS_pureL 10 (v := ?_) (fun _ => trivial) (by simp only [List.getElem?_toArray, List.getElem?_cons_succ, List.getElem?_cons_zero]; rfl) (by kernel_rfl) (by kernel_rfl) (fun _ _ _ _ _ h => h) ⟨rfl, (by intro c h; cases h), ?_⟩ ?_
  rotate_left
  focus (intro wS hSw; (try replace hSw := HSF.out wS hSw); (try dsimp only at hSw); go_simp; (try with_reducible rfl))
  (try simp only [Act.put, List.setIfInBounds_toArray, List.set_cons_zero, List.set_cons_succ])
  refine wpAnyS_done (by kernel_rfl) ?_
  have K4 := hid ((K3.out.cset HK4.out).mono (show N + 2 * v'.length + 23 ≤ N + 120 by have := HLEN.out; omega))
  have C4 := hid (show Chg w w4 (JF b cb jk L v) from Chg.trans (Chg.of_below B3.out (JF b cb jk L v)) HK4.out.C (fun k _ hk => hk.elim .inl (fun e => .inr (.inl e))))
  have L4H := hid (show ∀ k, DFP b L4 k → DFP b L k ∨ w.heap.size ≤ k from fun k hk => (HK4.out.lo k hk).imp id (fun e => Nat.le_trans B3.out.size e))
  have j5 := K4.out.J.cell 5; have jl := K4.out.J.lt; have jf := K4.out.J.frozen 5
  simp at j5
  by_cases h0 : ec = 0
  · subst h0
    have J5 := hid (show Blk (w4.setCell ⟨jk, 5, none⟩ (.bool false)) jk 71 #[.pointer (some ⟨b, 0, none⟩), .int .i64 jb, .pointer (some ⟨cb, 0, none⟩), v, .int .i64 ((formB l).length : Nat), .bool false] by simpa using K4.out.J.set_ 5 (.bool false))
    have hg5 := hid (gr_set w4 jk 5 (.bool false))
    have K5 := hid (K4.out.own hg5.out J5.out (K4.out.l.kept (fun g cs hg hb => hb.grown hg5.out (fun e => K4.out.vne.1 (by rw [hg, e])))))
    have C5 := hid (show Chg w (w4.setCell ⟨jk, 5, none⟩ (.bool false)) (JF b cb jk L v) from Chg.trans C4.out (Chg.of_grown hg5.out (S := fun k => k = jk) (fun k e => by injection e)) (fun k _ hk => .inr (.inr (.inl hk))))
    clear K4 C4 HK4
    go_wp2_with fail
    go_ret
    exact ⟨_, rfl, 0, L4, s4, slot2, v2, u2, rfl, HCSET.out, fun _ => HNEW.out (by first | rfl | trivial), by simpa using K5.out, C5.out, L4H.out⟩
  · have h0' : ec ≠ 0 := h0
    have hb0 : (ec != 0) = true := by simpa using h0
    have hb1 : (ec == 0) = false := by simpa using h0
    have J5 := hid (show Blk (w4.setCell ⟨jk, 5, none⟩ (.bool true)) jk 71 #[.pointer (some ⟨b, 0, none⟩), .int .i64 jb, .pointer (some ⟨cb, 0, none⟩), v, .int .i64 ((formB l).length : Nat), .bool true] by simpa using K4.out.J.set_ 5 (.bool true))
    have hg5 := hid (gr_set w4 jk 5 (.bool true))
    have K5 := hid (K4.out.own hg5.out J5.out (K4.out.l.kept (fun g cs hg hb => hb.grown hg5.out (fun e => K4.out.vne.1 (by rw [hg, e])))))
    have C5 := hid (show Chg w (w4.setCell ⟨jk, 5, none⟩ (.bool true)) (JF b cb jk L v) from Chg.trans C4.out (Chg.of_grown hg5.out (S := fun k => k = jk) (fun k e => by injection e)) (fun k _ hk => .inr (.inr (.inl hk))))
    clear K4 C4 HK4
    go_wp2_with fail
    go_ret
    exact ⟨_, rfl, ec, L4, s4, slot2, v2, u2, rfl, HCSET.out, HNEW.out, by simpa [h0] using K5.out, C5.out, L4H.out⟩
end Go.Proofs.YtbefmjodpndndaaDoor
namespace Go.Proofs.YtbefmjodpndndaaDoor
open Go.RowKit Go.IntWalk

section
variable {w : World} {base B : Nat} {A : Option Addr} {v : Value} {l : List ByteArray}
theorem str_all_len (l : List ByteArray) : (strRK.all l).length = l.length * 1 := strRK.all_len l
theorem LOwn.run_app (h : LOwn w base v l) {ys : List ByteArray} (hs : SlR w B A ys) (h0 : 0 < ys.length) (ty : TypeId) (c : Nat) (hlen : l.length + ys.length ≤ 100000000) (hbase : base ≤ w.heap.size) :
    ∃ A' c' w', (Builtin.append_ #[36, 36] ty #[v, .slice A ys.length c]).run Tryd.prog w = .ok (.slice A' (l.length + ys.length) c') w' ∧ strRK.Own w' base (.slice A' (l.length + ys.length) c') (l ++ ys) ∧ w.grownBy w' v.ownBlock ∧ ∀ g, (Value.slice A' (l.length + ys.length) c').ownBlock = some g → v.ownBlock = some g ∨ w.heap.size ≤ g := by
  obtain ⟨i0, hi, hz0, hz1, hz2⟩ := info_parts strRK.info
  have hz1 : i0.size = 1 := hz1
  have hz2 : i0.bytes = 16 := hz2
  have hmx : l.length + ys.length ≤ maxLen := by unfold maxLen; omega
  obtain ⟨b, off, rfl, _⟩ := strRK.elem hs h0
  rcases h.2 with h2 | ⟨g, cur, rfl, hg, hb, hm, ht⟩
  · obtain ⟨v', w', hr, h2', h3, _, h5⟩ := run_append_own_at (P := Tryd.prog) w base 36 ty 9 i0 _ 1 16 strRK.und hi hz0 hz1 hz2 strRK.zcs strRK.pos v l.length _ h2 ⟨b, off, none⟩ ys.length c (strRK.all ys) (strRK.all_len ys) (strRK.src hs) (strRK.all_oneC ys) hmx (by omega) hbase
    obtain ⟨A', c', rfl⟩ := own_form h2'
    refine ⟨A', c', w', hr, ?_, h3, fun g hg => h5.elim (fun e => .inl (e ▸ hg)) (fun e => .inr (by rw [e] at hg; injection hg with hg; omega))⟩
    unfold RK.Own
    rw [List.length_append, strRK.all_app]
    exact h2'
  · have holds : ∀ j u, (strRK.all l)[j]? = some u → w.cell? ((⟨g, 0, none⟩ : Addr).add j) = some u := by
      intro j u hu
      have hj : j < l.length := by
        have := (List.getElem?_eq_some_iff.1 hu).1
        rw [str_all_len] at this
        omega
      have hadd : (⟨g, 0, none⟩ : Addr).add j = ⟨g, 0 + j, none⟩ := by unfold Addr.add; by_cases h0 : j = 0 <;> simp [h0]
      have e1 : (cur.toList.take l.length)[j]? = cur.toList[j]? := List.getElem?_take_of_lt hj
      have e5 : cur[j]? = cur.toList[j]? := by simp
      rw [hadd, Nat.zero_add, hb.cell, e5, ← e1, ht, hu]
    have hr := run_append_grow (P := Tryd.prog) w 36 ty 9 i0 _ strRK.und hi hz0 ⟨g, 0, none⟩ l.length l.length (strRK.all l) (by rw [str_all_len, hz1]) holds ⟨b, off, none⟩ ys.length c (strRK.all ys) (by rw [str_all_len, hz1]) (strRK.src hs) (by omega) (by unfold maxLen at hmx; omega) (by
      have := nextslicecap_le (need := l.length + ys.length) (old := l.length) (by omega)
      rw [hz2]; omega)
    have hge := grownCap_ge w (l.length + ys.length) l.length 9
    have hcm := grownCap_le_maxLen w (l.length + ys.length) l.length 9 hmx
    refine ⟨_, _, _, hr, ?_, ⟨rfl, rfl, rfl, by simp, fun k hk _ => heap_alloc_old w.drew _ hk⟩, fun q hq => .inr (by simp [Value.ownBlock] at hq; omega)⟩
    unfold RK.Own
    rw [List.length_append, strRK.all_app]
    have hlen2 : (strRK.all l ++ strRK.all ys).length = (l.length + ys.length) * 1 := by rw [List.length_append, str_all_len, str_all_len]; omega
    refine ⟨hlen2, .inr ⟨w.heap.size, _, _, rfl, hbase, heap_alloc_new w.drew _, hge, hcm, ?_, ?_⟩⟩
    · have hzs : strRK.z.cells.size = 1 := rfl
      simp only [Array.size_append, List.size_toArray, size_zeroCells, hzs, str_all_len]
      show _ = grownCap w (l.length + ys.length) l.length 9 * 1
      omega
    · simp only [Array.toList_append, List.append_assoc]
      rw [← List.append_assoc, show strRK.size = 1 from rfl, ← hlen2]
      exact List.take_left
/-- .. as an operation of a drawn region. -/
theorem LOwn.appS {F : Fence} {n0 : Nat} {o : Oper} {a : Act} {K : Act → World → Prop} {Q : Exit → Act → World → Prop} (hF : ∀ f, F.fn f) (s x : Operand)
    (ho : o.op = .call { callee := .builtin .append, args := #[s, x], argTypes := #[36, 36] }) {ys : List ByteArray} {c : Nat} (hv : a.eval s = v) (hown : LOwn w base v l) (hx : a.eval x = .slice A ys.length c) (hs : SlR w B A ys) (h0 : 0 < ys.length) (hlen : l.length + ys.length ≤ 100000000) (hbase : base ≤ w.heap.size)
    (h : ∀ A' c' w', strRK.Own w' base (.slice A' (l.length + ys.length) c') (l ++ ys) → w.grownBy w' v.ownBlock → (∀ g, (Value.slice A' (l.length + ys.length) c').ownBlock = some g → v.ownBlock = some g ∨ w.heap.size ≤ g) → K (a.put o.dst (.slice A' (l.length + ys.length) c')) w') : Oper.wpIn F n0 Tryd.prog o a w K Q := by
  obtain ⟨A', c', w', hr, h2, h3, h4⟩ := hown.run_app hs h0 o.type c hlen hbase
  refine uponIn_of_value (v := .slice A' (l.length + ys.length) c') (w' := w') hF (by rw [ho]; intro c hc; cases hc) ?_ (h A' c' w' h2 h3 h4)
  unfold execOp
  simp only [ho, resolve, invoke, builtin, Sem.run_bind, Sem.run_pure, Result.andThen_ok, List.map_toArray, List.map_cons, List.map_nil, hv, hx, hr]
/-- The first strings only, the room behind them gone. -/
theorem LOwn.cut {g n c : Nat} (h : LOwn w base (.slice (some ⟨g, 0, none⟩) n c) l) {k : Nat} (hk : k ≤ l.length) : LOwn w base (.slice (some ⟨g, 0, none⟩) k k) (l.take k) := by
  have hlt : (l.take k).length = k := by rw [List.length_take]; omega
  have hall : ∀ (xs : List Value), xs.take l.length = strRK.all l → xs.take k = strRK.all (l.take k) := by
    intro xs hx
    have e : strRK.all (l.take k) = (strRK.all l).take k := by
      have e1 : strRK.all l = strRK.all (l.take k) ++ strRK.all (l.drop k) := by rw [← strRK.all_app, List.take_append_drop]
      rw [e1, List.take_left' (by rw [str_all_len, hlt]; omega)]
    rw [e, ← hx, List.take_take]
    congr 1
    omega
  refine ⟨fun x hx => h.1 x (List.mem_of_mem_take hx), .inr ?_⟩
  rw [hlt]
  rcases h.2 with h2 | ⟨g', cur, hv, hg, hb, hm, ht⟩
  · rcases h2.2 with ⟨hv, _⟩ | ⟨g', cap, cur, hv, hg, hb, hc, hm, hsz, ht⟩
    · cases hv
    · injection hv with hv _ _
      injection hv with hv
      injection hv with hv
      subst hv
      refine ⟨g, cur, rfl, hg, hb, by omega, hall _ ?_⟩
      rw [← ht]
      show _ = cur.toList.take (l.length * 1)
      rw [Nat.mul_one]
  · injection hv with hv _ _
    injection hv with hv
    injection hv with hv
    subst hv
    exact ⟨g, cur, rfl, hg, hb, by omega, hall _ ht⟩
end
end Go.Proofs.YtbefmjodpndndaaDoor
namespace Go.Proofs.YtbefmjodpndndaaDoor
open Go.RowKit Go.IntWalk

/-- What is noted of a list. -/
def noteB (l : List ByteArray) : Bs := encI ((formB l).length : Nat) ++ encI (l.length : Nat)
def LSays (slot : Nat) (cv log : Bs) (l : List ByteArray) : Prop := (slot = 0 ∧ l = []) ∨ (slot ≠ 0 ∧ cv = noteB l ∧ Has log 0 (formB l))
/-- What the two files say. -/
def JSays (cl cc : Bs) (l : List ByteArray) : Prop := ∃ slot cv, CellSays cc slot cv ∧ LSays slot cv cl l
/-- Whatever a crash leaves says one of these lists. -/
def Safe (s : DS) (jb : Int) (Ls : List ByteArray → Prop) : Prop := ∀ cl cc, Poss s jb cl → Poss s (jb + 1) cc → ∃ l, Ls l ∧ JSays cl cc l
theorem Safe.shr {s s' : DS} {jb : Int} {Ls : List ByteArray → Prop} (h : Safe s jb Ls) (hs : Shr s s') : Safe s' jb Ls := fun cl cc h1 h2 => h cl cc (hs _ _ h1) (hs _ _ h2)
theorem Safe.mono {s : DS} {jb : Int} {Ls Ls' : List ByteArray → Prop} (h : Safe s jb Ls) (hL : ∀ l, Ls l → Ls' l) : Safe s jb Ls' := fun cl cc h1 h2 => by
  obtain ⟨l, h3, h4⟩ := h cl cc h1 h2
  exact ⟨l, hL l h3, h4⟩
/-- A journal that is not broken: its files are durable and say its list. -/
structure JGood (s : DS) (jb : Int) (l : List ByteArray) (slot : Nat) (cv : Bs) : Prop where
  up : s.down = false
  d1 : (s.fl jb).2 = (s.fl jb).1
  d2 : (s.fl (jb + 1)).2 = (s.fl (jb + 1)).1
  cell : CellSays (s.fl (jb + 1)).1 slot cv
  log : LSays slot cv (s.fl jb).1 l
theorem poss_dur {s : DS} {f : Int} (h : (s.fl f).2 = (s.fl f).1) {c : Bs} (hc : Poss s f c) : c = (s.fl f).1 := by
  rcases hc with rfl | hc
  · rfl
  · rw [h] at hc; exact hc.same
theorem JGood.safe {s : DS} {jb : Int} {l : List ByteArray} {slot : Nat} {cv : Bs} (h : JGood s jb l slot cv) : Safe s jb (fun x => x = l) := fun cl cc h1 h2 =>
  ⟨l, rfl, slot, cv, by rw [poss_dur h.d2 h2]; exact h.cell, by rw [poss_dur h.d1 h1]; exact h.log⟩
/-- The lost syncs, the armed crash do not matter. -/
theorem JGood.of_fl {s s' : DS} {jb : Int} {l : List ByteArray} {slot : Nat} {cv : Bs} (h : JGood s jb l slot cv) (hd : s'.down = false) (h1 : s'.fl jb = s.fl jb) (h2 : s'.fl (jb + 1) = s.fl (jb + 1)) : JGood s' jb l slot cv :=
  ⟨hd, by rw [h1]; exact h.d1, by rw [h2]; exact h.d2, by rw [h2]; exact h.cell, by rw [h1]; exact h.log⟩
theorem form_app (a b : List ByteArray) : formB (a ++ b) = formB a ++ formB b := by
  unfold formB
  rw [List.map_append, List.flatten_append]
theorem form_nil : formB [] = [] := rfl
theorem nslot_ne (slot : Nat) : nslot slot ≠ 0 := by rcases nslot_or slot with h | h <;> omega
/-- The cell is set: the new list is said, or one of both is. -/
theorem note_law {s s' : DS} {jb e : Int} {l l' : List ByteArray} {slot : Nat} {cv : Bs} (hd : (s.fl jb).2 = (s.fl jb).1) (hl : LSays slot cv (s.fl jb).1 l) (hl' : Has (s.fl jb).1 0 (formB l')) (h : CSet s s' (jb + 1) slot cv (noteB l') e) :
    (e = 0 → JGood s' jb l' (nslot slot) (noteB l') ∧ ∀ g, g ≠ jb + 1 → s'.fl g = s.fl g) ∧ (e ≠ 0 → (e = 9 ∨ e = 10) ∧ Safe s' jb (fun x => x = l ∨ x = l')) ∧ (Calm s → e = 0 ∧ Calm s') := by
  have hne : jb ≠ jb + 1 := by omega
  refine ⟨fun he => ?_, fun he => ?_, h.calm⟩
  · obtain ⟨c2, hS, hC⟩ := h.ok he
    have h1 : s'.fl (jb + 1) = (c2, c2) := hS.at_
    have h2 : s'.fl jb = s.fl jb := hS.off hne
    refine ⟨⟨hS.1, by rw [h2]; exact hd, by rw [h1], by rw [h1]; exact hC, ?_⟩, fun g hg => hS.off hg⟩
    rw [h2]
    exact .inr ⟨nslot_ne slot, rfl, hl'⟩
  · obtain ⟨h1, h2, h3⟩ := h.err he
    refine ⟨h1, fun cl cc hcl hcc => ?_⟩
    have hcl := poss_dur hd (h2 jb hne cl hcl)
    rcases h3 cc hcc with h4 | h4
    · exact ⟨l, .inl rfl, slot, cv, h4, by rw [hcl]; exact hl⟩
    · exact ⟨l', .inr rfl, nslot slot, _, h4, .inr ⟨nslot_ne slot, rfl, by rw [hcl]; exact hl'⟩⟩
theorem LSays.has {slot : Nat} {cv log : Bs} {l : List ByteArray} (h : LSays slot cv log l) : Has log 0 (formB l) := by
  rcases h with ⟨_, rfl⟩ | ⟨_, _, h⟩
  · rw [form_nil]; exact Has.nil _ _ (Nat.zero_le _)
  · exact h
theorem LSays.of_has {slot : Nat} {cv log log' : Bs} {l : List ByteArray} (h : LSays slot cv log l) (h' : Has log' 0 (formB l)) : LSays slot cv log' l := by
  rcases h with h | ⟨h1, h2, _⟩
  · exact .inl h
  · exact .inr ⟨h1, h2, h'⟩
/-- The log is written behind what it has. -/
theorem log_write {s s1 : DS} {jb e : Int} {l ys : List ByteArray} {slot : Nat} {cv : Bs} (hg : JGood s jb l slot cv) (hw : WrR s jb (formB l).length (formB ys) e s1) :
    (e = 0 → St s s1 jb (putL (s.fl jb).1 (formB l).length (formB ys), (s.fl jb).1)) ∧ (e = 0 ∨ e = 9) ∧ (Calm s → e = 0 ∧ Calm s1) ∧ (e ≠ 0 → Safe s1 jb (fun x => x = l)) := by
  have h0 := St.start hg.up rfl hg.d1
  obtain ⟨h1, h2, h3, sm, hsm, hsh⟩ := h0.write hw
  refine ⟨h1, h2, h3, fun _ => Safe.shr (s := sm) (fun cl cc hcl hcc => ?_) hsh⟩
  have hHas := hg.log.has
  have hne : jb + 1 ≠ jb := by omega
  unfold Poss at hcl hcc
  rw [hsm] at hcl hcc
  simp only [if_true] at hcl
  simp only [if_neg hne] at hcc
  have hcc' : cc = (s.fl (jb + 1)).1 := poss_dur hg.d2 hcc
  have h2' : Has (putL (s.fl jb).1 (formB l).length (formB ys)) 0 (formB l) := hHas.put_other (.inr (by omega))
  refine ⟨l, rfl, slot, cv, by rw [hcc']; exact hg.cell, hg.log.of_has ?_⟩
  rcases hcl with rfl | hcl
  · exact h2'
  · exact hcl.has (putL_ge _ _ _) hHas h2'
/-- .. and made durable. -/
theorem log_sync {s s1 s2 : DS} {jb e : Int} {l ys : List ByteArray} {slot : Nat} {cv : Bs} (hg : JGood s jb l slot cv) (h1 : St s s1 jb (putL (s.fl jb).1 (formB l).length (formB ys), (s.fl jb).1)) (hs : SyR s1 jb e s2) :
    (e = 0 → JGood s2 jb l slot cv ∧ Has (s2.fl jb).1 0 (formB (l ++ ys)) ∧ ∀ g, g ≠ jb → s2.fl g = s.fl g) ∧ (e = 0 ∨ e = 9 ∨ e = 10) ∧ (Calm s1 → e = 0 ∧ Calm s2) ∧ (e ≠ 0 → Safe s2 jb (fun x => x = l)) := by
  obtain ⟨p1, p2, p3, p4⟩ := h1.sync hs
  have hHas := hg.log.has
  have hne : jb + 1 ≠ jb := by omega
  have h2' : Has (putL (s.fl jb).1 (formB l).length (formB ys)) 0 (formB l) := hHas.put_other (.inr (by omega))
  refine ⟨fun he => ?_, p3, p4, fun _ => Safe.shr (s := s1) (fun cl cc hcl hcc => ?_) p2⟩
  · have h3 := p1 he
    have e1 := h3.at_
    have e2 : s2.fl (jb + 1) = s.fl (jb + 1) := h3.off hne
    refine ⟨⟨h3.1, by rw [e1], by rw [e2]; exact hg.d2, by rw [e2]; exact hg.cell, ?_⟩, ?_, fun g hg => h3.off hg⟩
    · rw [e1]; exact hg.log.of_has h2'
    · rw [e1, form_app]
      have hle : (formB l).length ≤ (s.fl jb).1.length := by have := hHas.1; omega
      exact Has.app h2' (by rw [Nat.zero_add]; exact Has.put _ _ _ (fun _ => hle))
  · unfold Poss at hcl hcc
    rw [h1.2] at hcl hcc
    simp only [if_true] at hcl
    simp only [if_neg hne] at hcc
    have hcc' : cc = (s.fl (jb + 1)).1 := poss_dur hg.d2 hcc
    refine ⟨l, rfl, slot, cv, by rw [hcc']; exact hg.cell, hg.log.of_has ?_⟩
    rcases hcl with rfl | hcl
    · exact h2'
    · exact hcl.has (putL_ge _ _ _) hHas h2'
/-- What Append does, where it comes to writing. -/
structure AppR (s s' : DS) (jb : Int) (l l' : List ByteArray) (slot : Nat) (e : Int) : Prop where
  ok : e = 0 → JGood s' jb l' (nslot slot) (noteB l') ∧ ∀ g, g ≠ jb → g ≠ jb + 1 → s'.fl g = s.fl g
  err : e ≠ 0 → (e = 9 ∨ e = 10) ∧ Safe s' jb (fun x => x = l ∨ x = l')
  calm : Calm s → e = 0 ∧ Calm s'
theorem encT_ne (t : Bs) : encT t ≠ [] := by
  intro h
  have := congrArg List.length h
  simp [encT] at this
theorem read_form (l : List ByteArray) (hz : ∀ x ∈ l, x.data.toList.length ≤ 1000000000000) : readB (formB l) l.length = true ∧ (readL (formB l) l.length).map bs = l := by
  have h1 : formB l = ((l.map fun s => s.data.toList).map encT).flatten ++ [] := by
    unfold formB
    rw [List.map_map, List.append_nil]
    rfl
  have h2 := rWhile_enc rT encT [] (l.map fun s => s.data.toList) (fun x _ => encT_ne x) (fun x hx r b => by
    obtain ⟨y, hy, rfl⟩ := List.mem_map.1 hx
    exact rT_enc _ (hz y hy) r b)
  rw [← h1, List.length_map] at h2
  unfold readB readL
  rw [h2]
  refine ⟨by simp, ?_⟩
  rw [List.map_map]
  conv => rhs; rw [← List.map_id l]
  refine List.map_congr_left fun x _ => ?_
  exact bs_of x
/-- Files that say a list are opened as it. -/
theorem open_says {log cv : Bs} {slot : Nat} {l : List ByteArray} (h : LSays slot cv log l) (hz : ∀ x ∈ l, x.data.toList.length ≤ 1000000000000) (hb : (formB l).length ≤ 1000000000000) (hn : l.length ≤ 1000000000000) : ∃ r, openF slot cv log = some r ∧ r.map bs = l := by
  rcases h with ⟨rfl, rfl⟩ | ⟨h1, h2, h3⟩
  · refine ⟨[], ?_, rfl⟩
    unfold openF numsA
    simp [readB, readL, rWhile]
  · have hq : numsA slot cv = ((((formB l).length : Nat) : Int), ((l.length : Nat) : Int), true) := by
      unfold numsA numsF
      rw [if_neg h1, h2]
      unfold noteB
      have e1 := rN_enc ((formB l).length : Nat) ⟨by omega, by omega⟩ (by omega) (encI (l.length : Nat)) false
      have e2 := rN_enc (l.length : Nat) ⟨by omega, by omega⟩ (by omega) [] false
      rw [List.append_nil] at e2
      rw [e1]
      simp only [e2]
      rfl
    have hlog : log.take (formB l).length = formB l := by have := h3.eq; rwa [List.drop_zero] at this
    obtain ⟨r1, r2⟩ := read_form l hz
    refine ⟨readL (formB l) l.length, ?_, r2⟩
    unfold openF
    rw [hq]
    simp only [Int.toNat_natCast, hlog]
    rw [if_pos ⟨trivial, r1, trivial⟩]
end Go.Proofs.YtbefmjodpndndaaDoor
namespace Go.Proofs.YtbefmjodpndndaaDoor
open Go.RowKit Go.IntWalk

/-- What Append returns, and what the journal is then. -/
def AStep (s s' : DS) (jb : Int) (l ys : List ByteArray) (slot : Nat) (cv : Bs) (br : Bool) (ec : Int) (l' : List ByteArray) (slot' : Nat) (cv' : Bs) (br' : Bool) : Prop :=
  (br = true ∧ ec = 7 ∧ l' = l ∧ br' = true ∧ s' = s) ∨
  (br = false ∧ ys = [] ∧ ec = 0 ∧ l' = l ∧ br' = false ∧ s' = s ∧ slot' = slot ∧ cv' = cv) ∨
  (br = false ∧ ys ≠ [] ∧ 1048576 < (formB l).length + (formB ys).length ∧ ec = 6 ∧ l' = l ∧ br' = false ∧ s' = s ∧ slot' = slot ∧ cv' = cv) ∨
  (br = false ∧ ys ≠ [] ∧ (formB l).length + (formB ys).length ≤ 1048576 ∧ AppR s s' jb l (l ++ ys) slot ec ∧ (ec = 0 → l' = l ++ ys ∧ br' = false ∧ slot' = nslot slot ∧ cv' = noteB (l ++ ys)) ∧ (ec ≠ 0 → l' = l ∧ br' = true))
/-- The journal behind a call. -/
structure JRes (w : World) (base jk b cb : Nat) (L : DL) (jb : Int) (v : Value) (N : Nat) (L' : DL) (s' : DS) (v' : Value) (l' : List ByteArray) (slot' : Nat) (cv' : Bs) (u' br' : Bool) (w' : World) : Prop where
  M : JM w' base jk b cb L' s' jb v' l' slot' cv' u' br' N
  C : Chg w w' (JF b cb jk L v)
  lo : ∀ k, DFP b L' k → DFP b L k ∨ w.heap.size ≤ k
  lv : ∀ k, v'.ownBlock = some k → v.ownBlock = some k ∨ w.heap.size ≤ k
def AppRes (w : World) (base jk b cb : Nat) (L : DL) (s : DS) (jb : Int) (v : Value) (l ys : List ByteArray) (slot : Nat) (cv : Bs) (br : Bool) (N : Nat) (e : Ending) (w' : World) : Prop :=
  ∃ (ec : Int) (L' : DL) (s' : DS) (v' : Value) (l' : List ByteArray) (slot' : Nat) (cv' : Bs) (u' br' : Bool), e = .returned (.int .i64 ec) ∧ AStep s s' jb l ys slot cv br ec l' slot' cv' br' ∧ JRes w base jk b cb L jb v N L' s' v' l' slot' cv' u' br' w'
section
variable {w w1 w2 : World} {base jk b cb : Nat} {L L1 L2 : DL} {jb : Int} {v v1 v2 : Value} {N N2 : Nat} {s1 s2 : DS} {l1 l2 : List ByteArray} {slot slot2 : Nat} {cv cv2 : Bs} {u u2 br br2 : Bool}
theorem JRes.start (h : JM w base jk b cb L s1 jb v l1 slot cv u br N) : JRes w base jk b cb L jb v N L s1 v l1 slot cv u br w := ⟨h, Chg.refl _ _, fun _ h => .inl h, fun _ h => .inl h⟩
theorem JRes.below (h : JRes w base jk b cb L jb v N L1 s1 v1 l1 slot cv u br w1) (hb : Below w1.heap.size w1 w2) : JRes w base jk b cb L jb v N L1 s1 v1 l1 slot cv u br w2 :=
  ⟨h.M.below hb, Chg.trans h.C (Chg.of_below hb (fun _ => False)) (fun _ _ h => h.elim), h.lo, h.lv⟩
theorem JRes.mono (h : JRes w base jk b cb L jb v N L1 s1 v1 l1 slot cv u br w1) (hN : N ≤ N2) : JRes w base jk b cb L jb v N2 L1 s1 v1 l1 slot cv u br w1 := ⟨h.M.mono hN, h.C, h.lo, h.lv⟩
/-- A call on the disk. -/
theorem JRes.dsk (h : JRes w base jk b cb L jb v N L1 s1 v1 l1 slot cv u br w1) (hD : Dsk w2 base b L2 s2 N2) (hC : Chg w1 w2 (DFP b L1)) (hl : ∀ k, DFP b L2 k → DFP b L1 k ∨ w1.heap.size ≤ k) : JRes w base jk b cb L jb v N2 L2 s2 v1 l1 slot cv u br w2 :=
  ⟨h.M.dsk hD hC, Chg.trans h.C hC (fun k hk hx => (h.lo k hx).elim .inl (fun e => by omega)), fun k hk => (hl k hk).elim (h.lo k) (fun e => .inr (Nat.le_trans h.C.size e)), h.lv⟩
/-- note. -/
theorem JRes.note (h : JRes w base jk b cb L jb v N L1 s1 v1 l1 slot cv u br w1) (hM : JM w2 base jk b cb L2 s2 jb v1 l1 slot2 cv2 u2 br2 N2) (hC : Chg w1 w2 (JF b cb jk L1 v1)) (hl : ∀ k, DFP b L2 k → DFP b L1 k ∨ w1.heap.size ≤ k) : JRes w base jk b cb L jb v N2 L2 s2 v1 l1 slot2 cv2 u2 br2 w2 :=
  ⟨hM, Chg.trans h.C hC (fun k hk hx => by
    rcases hx with hx | hx | hx | hx
    · exact (h.lo k hx).elim .inl (fun e => by omega)
    · exact .inr (.inl hx)
    · exact .inr (.inr (.inl hx))
    · exact (h.lv k hx).elim (fun e => .inr (.inr (.inr e))) (fun e => by omega)), fun k hk => (hl k hk).elim (h.lo k) (fun e => .inr (Nat.le_trans h.C.size e)), h.lv⟩
/-- The journal's own block. -/
theorem JRes.own (h : JRes w base jk b cb L jb v N L1 s1 v1 l1 slot cv u br w1) (hg : w1.grownBy w2 (some jk)) (hJ : Blk w2 jk 71 #[.pointer (some ⟨b, 0, none⟩), .int .i64 jb, .pointer (some ⟨cb, 0, none⟩), v2, .int .i64 ((formB l2).length : Nat), .bool br2]) (hl : LOwn w2 base v2 l2) (hv : ∀ k, v2.ownBlock = some k → v1.ownBlock = some k ∨ w1.heap.size ≤ k) : JRes w base jk b cb L jb v N L1 s1 v2 l2 slot cv u br2 w2 :=
  ⟨h.M.own hg hJ hl, Chg.trans h.C (Chg.of_grown hg (S := fun k => k = jk) (fun k e => by injection e)) (fun k _ hk => .inr (.inr (.inl hk))), h.lo, fun k hk => (hv k hk).elim (h.lv k) (fun e => .inr (Nat.le_trans h.C.size e))⟩
theorem LOwn.ofj (h : JM w base jk b cb L s1 jb v l1 slot cv u br N) (hg : w.grownBy w2 (some jk)) : LOwn w2 base v l1 := h.l.kept (fun g cs hv hb => hb.grown hg (fun e => h.vne.1 (by rw [hv, e])))
/-- The list's block grows. -/
theorem JM.grew (h : JM w base jk b cb L s1 jb v l1 slot cv u br N) (hg : w.grownBy w2 v.ownBlock) (hb : base ≤ w.heap.size) : Dsk w2 base b L s1 N ∧ Blk w2 cb 86 #[.pointer (some ⟨b, 0, none⟩), .int .i64 (jb + 1), .int .i64 (slot : Int), .string (bs cv), .bool u] ∧ Blk w2 jk 71 #[.pointer (some ⟨b, 0, none⟩), .int .i64 jb, .pointer (some ⟨cb, 0, none⟩), v, .int .i64 ((formB l1).length : Nat), .bool br] ∧ EB base w2 := by
  have hC : Chg w w2 (fun k => v.ownBlock = some k) := Chg.of_grown hg (fun k e => e.symm)
  exact ⟨h.H.chg hC (fun k hk => (h.apart k hk).2.2), hC.blk h.X h.vne.2, hC.blk h.J h.vne.1, h.E.chg hC (fun k hk => (h.l.blk hk).1)⟩
/-- The list grew and was stored. -/
theorem JRes.grow (h : JRes w base jk b cb L jb v N L1 s1 v1 l1 slot cv u br w1) (hb : base ≤ w1.heap.size) (hg : w1.grownBy w2 v1.ownBlock) (ho : strRK.Own w2 base v2 l2) (hok : ∀ x ∈ l2, x.size ≤ maxLen) (hv : ∀ k, v2.ownBlock = some k → v1.ownBlock = some k ∨ w1.heap.size ≤ k) {n : Int} (hn : n = ((formB l2).length : Nat)) :
    JRes w base jk b cb L jb v N L1 s1 v2 l2 slot cv u br ((w2.setCell ⟨jk, 3, none⟩ v2).setCell ⟨jk, 4, none⟩ (.int .i64 n)) := by
  obtain ⟨hD, hX, hJ, hE⟩ := h.M.grew hg hb
  have hgs := gr_tr (gr_set w2 jk 3 v2) (gr_set (w2.setCell ⟨jk, 3, none⟩ v2) jk 4 (.int .i64 n))
  have hC2 : Chg w2 ((w2.setCell ⟨jk, 3, none⟩ v2).setCell ⟨jk, 4, none⟩ (.int .i64 n)) (fun k => k = jk) := Chg.of_grown hgs (fun k e => by injection e)
  have hC1 : Chg w1 w2 (fun k => v1.ownBlock = some k) := Chg.of_grown hg (fun k e => e.symm)
  have hne : v2.ownBlock ≠ some jk := own_blk_ne ho hJ (by decide)
  refine ⟨⟨hD.chg hC2 (fun k hk => (h.M.apart k hk).2.1), hC2.blk hX (fun e => h.M.jc e.symm), ?_, ⟨hok, .inl (ho.kept hgs (.inr hne))⟩, h.M.hj, h.M.hc, hE.chg hC2 (fun k e => by rw [e]; exact h.M.hj)⟩, ?_, h.lo, fun k hk => (hv k hk).elim (h.lv k) (fun e => .inr (Nat.le_trans h.C.size e))⟩
  · have := (hJ.set_ 3 v2).set_ 4 (.int .i64 n)
    simp at this
    rw [← hn]
    exact this
  · refine Chg.trans (Chg.trans h.C hC1 (fun k hk e => (h.lv k e).elim (fun e => .inr (.inr (.inr e))) (fun e => by omega))) hC2 (fun k _ e => .inr (.inr (.inl e)))
end
theorem SlR.chg {w w' : World} {A : Option Addr} {l : List ByteArray} {S : Nat → Prop} (h : SlR w w.heap.size A l) (hc : Chg w w' S) (hA : ∀ ad, A = some ad → 0 < l.length → ¬ S ad.block) : SlR w' w'.heap.size A l := by
  intro k x hx
  obtain ⟨b, off, es, rfl, hb, hs, hcl, hr⟩ := h k x hx
  exact ⟨b, off, es, rfl, Nat.lt_of_lt_of_le hb hc.size, hs, fun j u hu => (chg_cell hc hb (hA _ rfl (Nat.lt_of_le_of_lt (Nat.zero_le _) (List.getElem?_eq_some_iff.1 hx).1))).trans (hcl j u hu), hr⟩
set_option maxRecDepth 100000 in
set_option maxHeartbeats 16000000 in
theorem append_any (base jk b cb : Nat) (L : DL) (s : DS) (jb : Int) (v : Value) (l : List ByteArray) (slot : Nat) (cv : Bs) (u br : Bool) (N : Nat) (A : Option Addr) (c : Nat) (ys : List ByteArray) (w : World) (h : JM w base jk b cb L s jb v l slot cv u br N) (hg : br = false → JGood s jb l slot cv) (hj : 0 ≤ jb ∧ jb ≤ 14) (hs : SlR w w.heap.size A ys) (hA : ∀ ad, A = some ad → 0 < ys.length → ¬ JF b cb jk L v ad.block) (hys : ∀ x ∈ ys, x.size ≤ 2000000) (hfy : (formB ys).length ≤ 3000000) (hfl : (formB l).length ≤ 1048576) (hyl : ys.length ≤ 1000000) (hll : l.length ≤ 1000000) (hN : N + 2 * (formB ys).length + 200 ≤ 50000000) (hbase : base ≤ w.heap.size) :
    Calls Tryd.prog 20 #[.pointer (some ⟨jk, 0, none⟩), .slice A ys.length c] w (AppRes w base jk b cb L s jb v l ys slot cv br (N + 2 * (formB ys).length + 200)) := by
  have HF := hid (form_any A c ys w (by unfold maxLen; omega) hs h.E.env (by omega) (fun x hx => by have := hys x hx; omega))
  have K0 := hid (JRes.start h)
  have HG0 := hid hg
  have HYS := hid hys
  have HSL := hid (fun (W : World) (hW : Chg w W (JF b cb jk L v)) => hs.chg hW hA)
  obtain ⟨fy, hfye⟩ : ∃ fy, fy = formB ys := ⟨_, rfl⟩
  obtain ⟨fl, hfle⟩ : ∃ fl, fl = (formB l).length := ⟨_, rfl⟩
  rw [← hfye] at HF hfy hN ⊢
  rw [← hfle] at hfl
  have HFY := hid hfye
  have HFL := hid hfle
  have hfsz := bs_size fy
  clear h hg hs hys hfye hfle hA
  go_enter Tryd.func20, Tryd.ntmps20
  go_wp2_with fail
  refine HF.out.mono ?_
  rintro e w1 ⟨rfl, hB⟩
  have K1 := hid (K0.out.below hB)
  have hb1 := hid (Nat.le_trans hbase hB.size)
  clear hB HF K0
  have j5 := K1.out.M.J.cell 5; have j4 := K1.out.M.J.cell 4; have jl := K1.out.M.J.lt
  rw [← HFL.out] at j4
  simp at j5 j4
  cases br with
  | true =>
    go_wp2_with fail
    go_ret
    exact ⟨7, L, s, v, l, slot, cv, u, true, rfl, .inl ⟨rfl, rfl, rfl, rfl, rfl⟩, K1.out.mono (by omega)⟩
  | false =>
  by_cases hy0 : ys = []
  · have hyb : ((ys.length : Int) == 0) = true := by rw [hy0]; rfl
    have hyI : (ys.length : Int) = 0 := by rw [hy0]; rfl
    have HY := hid hy0
    clear hy0
    go_wp2_with fail
    go_ret
    exact ⟨0, L, s, v, l, slot, cv, u, false, rfl, .inr (.inl ⟨rfl, HY.out, rfl, rfl, rfl, rfl, rfl, rfl⟩), K1.out.mono (by omega)⟩
  · have hpos := List.length_pos_iff.2 hy0
    have hyI : ¬ (ys.length : Int) = 0 := by omega
    have hyb : ((ys.length : Int) == 0) = false := by rw [beq_eq_false_iff_ne]; exact hyI
    have HY := hid hy0
    clear hy0
    by_cases hmax : 1048576 < fl + fy.length
    · have hmI : (1048576 : Int) < (fl : Int) + (fy.length : Int) := by omega
      go_wp2_with fail
      go_ret
      exact ⟨6, L, s, v, l, slot, cv, u, false, rfl, .inr (.inr (.inl ⟨rfl, HY.out, by rw [← HFL.out, ← HFY.out]; exact hmax, rfl, rfl, rfl, rfl, rfl, rfl⟩)), K1.out.mono (by omega)⟩
    have hmI : ¬ (1048576 : Int) < (fl : Int) + (fy.length : Int) := by omega
    have HG := hid (HG0.out rfl)
    clear HG0
    -- the log is written
    go_upto_region 8 with fail
    clear j5 j4 jl
    have K1d := hid (K1.out.below (Below.refl _ w1).drew)
    have HSF := hid (fun (wq : World) (hq : wq = w1.drew) => show wq.cell? ⟨jk, 0, none⟩ = some (.pointer (some ⟨b, 0, none⟩)) ∧ wq.cell? ⟨jk, 1, none⟩ = some (.int .i64 jb) ∧ wq.cell? ⟨jk, 4, none⟩ = some (.int .i64 (fl : Int)) ∧ jk < wq.heap.size from by rw [hq]; exact ⟨K1d.out.M.J.cell 0, K1d.out.M.J.cell 1, by rw [HFL.out]; exact K1d.out.M.J.cell 4, K1d.out.M.J.lt⟩)
    refine wpIn_wide.1 (wpIn_region_S (n := 0) (fun wq => wq = w1.drew) [13] (by kernel_rfl) rfl (fun hHeld => ?_))
    have HCT := hid (write_v b base L s N jb fl fy w1.drew K1d.out.M.H ⟨hj.1, by omega⟩ (by omega) (by omega) hb1.out)
    generalize w1.drew = wd at *
    refine wpAnyS_pure 0 (v := ?_) (fun _ => trivial) (by simp only [List.getElem?_toArray, List.getElem?_cons_succ, List.getElem?_cons_zero]; rfl) (by kernel_rfl) (fun _ _ _ _ _ h => h) ⟨rfl, (by intro c h; cases h), ?_⟩ hHeld ?_
    rotate_left
    focus (intro wS hSw; (try replace hSw := HSF.out wS hSw); (try dsimp only at hSw); go_simp; (try with_reducible rfl))
    (try simp only [Act.put, List.setIfInBounds_toArray, List.set_cons_zero, List.set_cons_succ])
    refine wpAnyS_pure 1 (v := ?_) (fun _ => trivial) (by simp only [List.getElem?_toArray, List.getElem?_cons_succ, List.getElem?_cons_zero]; rfl) (by kernel_rfl) (fun _ _ _ _ _ h => h) ⟨rfl, (by intro c h; cases h), ?_⟩ hHeld ?_
    rotate_left
    focus (intro wS hSw; (try replace hSw := HSF.out wS hSw); (try dsimp only at hSw); go_simp; (try with_reducible rfl))
    (try simp only [Act.put, List.setIfInBounds_toArray, List.set_cons_zero, List.set_cons_succ])
    refine wpAnyS_pure 2 (v := ?_) (fun _ => trivial) (by simp only [List.getElem?_toArray, List.getElem?_cons_succ, List.getElem?_cons_zero]; rfl) (by kernel_rfl) (fun _ _ _ _ _ h => h) ⟨rfl, (by intro c h; cases h), ?_⟩ hHeld ?_
    rotate_left
    focus (intro wS hSw; (try replace hSw := HSF.out wS hSw); (try dsimp only at hSw); go_simp; (try with_reducible rfl))
    (try simp only [Act.put, List.setIfInBounds_toArray, List.set_cons_zero, List.set_cons_succ])
    refine wpAnyS_take 3 (v := ?_) (fun _ => trivial) (by simp only [List.getElem?_toArray, List.getElem?_cons_succ, List.getElem?_cons_zero]; rfl) (by kernel_rfl) (fun _ _ _ _ _ h => h) ⟨rfl, (by intro c h; cases h), ?_⟩ hHeld ?_
    rotate_left
    focus (intro wS hSw; (try replace hSw := HSF.out wS hSw); (try dsimp only at hSw); go_simp; (try with_reducible rfl))
    (try simp only [Act.put, List.setIfInBounds_toArray, List.set_cons_zero, List.set_cons_succ])
    refine wpAnyS_pure 4 (v := ?_) (fun _ => trivial) (by simp only [List.getElem?_toArray, List.getElem?_cons_succ, List.getElem?_cons_zero]; rfl) (by kernel_rfl) (fun _ _ _ _ _ h => h) ⟨rfl, (by intro c h; cases h), ?_⟩ hHeld ?_
    rotate_left
    focus (intro wS hSw; (try replace hSw := HSF.out wS hSw); (try dsimp only at hSw); go_simp; (try with_reducible rfl))
    (try simp only [Act.put, List.setIfInBounds_toArray, List.set_cons_zero, List.set_cons_succ])
    refine wpAnyS_pure 5 (v := ?_) (fun _ => trivial) (by simp only [List.getElem?_toArray, List.getElem?_cons_succ, List.getElem?_cons_zero]; rfl) (by kernel_rfl) (fun _ _ _ _ _ h => h) ⟨rfl, (by intro c h; cases h), ?_⟩ hHeld ?_
    rotate_left
    focus (intro wS hSw; (try replace hSw := HSF.out wS hSw); (try dsimp only at hSw); go_simp; (try with_reducible rfl))
    (try simp only [Act.put, List.setIfInBounds_toArray, List.set_cons_zero, List.set_cons_succ])
    refine wpAnyS_pure 6 (v := ?_) (fun _ => trivial) (by simp only [List.getElem?_toArray, List.getElem?_cons_succ, List.getElem?_cons_zero]; rfl) (by kernel_rfl) (fun _ _ _ _ _ h => h) ⟨rfl, (by intro c h; cases h), ?_⟩ hHeld ?_
    rotate_left
    focus (intro wS hSw; (try replace hSw := HSF.out wS hSw); (try dsimp only at hSw); go_simp; (try with_reducible rfl))
    (try simp only [Act.put, List.setIfInBounds_toArray, List.set_cons_zero, List.set_cons_succ])
    refine wpAnyS_take 7 (v := ?_) (fun _ => trivial) (by simp only [List.getElem?_toArray, List.getElem?_cons_succ, List.getElem?_cons_zero]; rfl) (by kernel_rfl) (fun _ _ _ _ _ h => h) ⟨rfl, (by intro c h; cases h), ?_⟩ hHeld ?_
    rotate_left
    focus (intro wS hSw; (try replace hSw := HSF.out wS hSw); (try dsimp only at hSw); go_simp; (try with_reducible rfl))
    (try simp only [Act.put, List.setIfInBounds_toArray, List.set_cons_zero, List.set_cons_succ])
    refine wpAnyS_pure 8 (v := ?_) (fun _ => trivial) (by simp only [List.getElem?_toArray, List.getElem?_cons_succ, List.getElem?_cons_zero]; rfl) (by kernel_rfl) (fun _ _ _ _ _ h => h) ⟨rfl, (by intro c h; cases h), ?_⟩ hHeld ?_
    rotate_left
    focus (intro wS hSw; (try replace hSw := HSF.out wS hSw); (try dsimp only at hSw); go_simp; (try with_reducible rfl))
    (try simp only [Act.put, List.setIfInBounds_toArray, List.set_cons_zero, List.set_cons_succ])
    refine wpAnyS_pure 9 (v := ?_) (fun _ => trivial) (by simp only [List.getElem?_toArray, List.getElem?_cons_succ, List.getElem?_cons_zero]; rfl) (by kernel_rfl) (fun _ _ _ _ _ h => h) ⟨rfl, (by intro c h; cases h), ?_⟩ hHeld ?_
    rotate_left
    focus (intro wS hSw; (try replace hSw := HSF.out wS hSw); (try dsimp only at hSw); go_simp; (try with_reducible rfl))
    (try simp only [Act.put, List.setIfInBounds_toArray, List.set_cons_zero, List.set_cons_succ])
    refine wpAnyS_pure 10 (v := ?_) (fun _ => trivial) (by simp only [List.getElem?_toArray, List.getElem?_cons_succ, List.getElem?_cons_zero]; rfl) (by kernel_rfl) (fun _ _ _ _ _ h => h) ⟨rfl, (by intro c h; cases h), ?_⟩ hHeld ?_
    rotate_left
    focus (intro wS hSw; (try replace hSw := HSF.out wS hSw); (try dsimp only at hSw); go_simp; (try with_reducible rfl))
    (try simp only [Act.put, List.setIfInBounds_toArray, List.set_cons_zero, List.set_cons_succ])
    refine wpAnyS_take 11 (v := ?_) (fun _ => trivial) (by simp only [List.getElem?_toArray, List.getElem?_cons_succ, List.getElem?_cons_zero]; rfl) (by kernel_rfl) (fun _ _ _ _ _ h => h) ⟨rfl, (by intro c h; cases h), ?_⟩ hHeld ?_
    rotate_left
    focus (intro wS hSw; (try replace hSw := HSF.out wS hSw); (try dsimp only at hSw); go_simp; (try with_reducible rfl))
    (try simp only [Act.put, List.setIfInBounds_toArray, List.set_cons_zero, List.set_cons_succ])
    refine wpAnyS_pure 12 (v := ?_) (fun _ => trivial) (by simp only [List.getElem?_toArray, List.getElem?_cons_succ, List.getElem?_cons_zero]; rfl) (by kernel_rfl) (fun _ _ _ _ _ h => h) ⟨rfl, (by intro c h; cases h), ?_⟩ hHeld ?_
    rotate_left
    focus (intro wS hSw; (try replace hSw := HSF.out wS hSw); (try dsimp only at hSw); go_simp; (try with_reducible rfl))
    (try simp only [Act.put, List.setIfInBounds_toArray, List.set_cons_zero, List.set_cons_succ])
    refine wpAnyS_ready [13] (by kernel_rfl) (by simp) (AllReadyS.consL (by simp only [List.getElem?_toArray, List.getElem?_cons_succ, List.getElem?_cons_zero]; rfl) rfl (by kernel_rfl) (fun K hK => ?_) AllReadyS.nil)
    refine callV (by intro c h; cases h) (by go_simp; try with_reducible rfl) HCT.out ?_
    intro vv w2 hR
    obtain ⟨ec, L2, s2, rfl, hP, hD2, hC2, hl2⟩ := hR
    have K2 := hid (K1d.out.dsk hD2 hC2 hl2)
    rw [HFL.out, HFY.out] at hP
    obtain ⟨p1, p2, p3, p4⟩ := log_write HG.out hP
    have P1 := hid p1; have P2 := hid p2; have P3 := hid p3; have P4 := hid p4
    refine hK.out _ _ ?_
    (try simp only [Act.put, List.setIfInBounds_toArray, List.set_cons_zero, List.set_cons_succ])
    clear hK K hHeld hP hD2 hC2 hl2 p1 p2 p3 p4 HCT HSF
    refine wpAnyS_pureL 14 (v := ?_) (fun _ => trivial) (by simp only [List.getElem?_toArray, List.getElem?_cons_succ, List.getElem?_cons_zero]; rfl) (by kernel_rfl) (by kernel_rfl) (fun _ _ _ _ _ h => h) ⟨rfl, (by intro c h; cases h), ?_⟩ ?_
    rotate_left
    focus (intro wS hSw; (try replace hSw := HSF.out wS hSw); (try dsimp only at hSw); go_simp; (try with_reducible rfl))
    (try simp only [Act.put, List.setIfInBounds_toArray, List.set_cons_zero, List.set_cons_succ])
    refine wpAnyS_done (by kernel_rfl) ?_
    have HMX := hid hmI
    have HAP := hid (show ∀ (ec : Int) (s' : DS), (ec = 9 ∨ ec = 10) → Safe s' jb (fun x => x = l ∨ x = l ++ ys) → (Calm s → ec = 0) → AppR s s' jb l (l ++ ys) slot ec from fun ec s' h1 h2 h3 => ⟨fun h => by omega, fun _ => ⟨h1, h2⟩, fun h => by have := h3 h; omega⟩)
    have HFIT := hid (show (formB l).length + (formB ys).length ≤ 1048576 by rw [← HFL.out, ← HFY.out]; omega)
    by_cases he : ec = 0
    case neg =>
      have he2 : ec ≠ 0 := he
      have heb : (ec == 0) = false := by simpa using he
      have heb2 : (ec != 0) = true := by simpa using he
      have j5 := K2.out.M.J.cell 5; have jl := K2.out.M.J.lt; have jf := K2.out.M.J.frozen 5
      simp at j5
      have hg5 := hid (gr_set w2 jk 5 (.bool true))
      have K3 := hid (K2.out.own hg5.out (v2 := v) (l2 := l) (br2 := true) (by simpa using K2.out.M.J.set_ 5 (.bool true)) (LOwn.ofj K2.out.M hg5.out) (fun _ h => .inl h))
      clear K2 K1 K1d
      go_wp2_with fail
      go_ret
      exact ⟨ec, L2, s2, v, l, slot, cv, u, true, rfl, .inr (.inr (.inr ⟨rfl, HY.out, HFIT.out, HAP.out ec s2 (.inl (P2.out.resolve_left he)) ((P4.out he).mono (fun x hx => .inl hx)) (fun h => (P3.out h).1), fun h => absurd h he, fun _ => ⟨rfl, rfl⟩⟩)), K3.out.mono (by omega)⟩
    subst he
    have S2 := hid (P1.out (by first | rfl | trivial))
    have C2 := hid (fun h => (P3.out h).2)
    have hb2 := hid (Nat.le_trans hbase K2.out.C.size)
    clear P1 P2 P3 P4 K1 K1d
    -- and made durable
    go_upto_region 10 with fail
    have K2d := hid (K2.out.below (Below.refl _ w2).drew)
    have HSF := hid (fun (wq : World) (hq : wq = w2.drew) => show wq.cell? ⟨jk, 0, none⟩ = some (.pointer (some ⟨b, 0, none⟩)) ∧ wq.cell? ⟨jk, 1, none⟩ = some (.int .i64 jb) ∧ jk < wq.heap.size from by rw [hq]; exact ⟨K2d.out.M.J.cell 0, K2d.out.M.J.cell 1, K2d.out.M.J.lt⟩)
    refine wpIn_wide.1 (wpIn_region_S (n := 0) (fun wq => wq = w2.drew) [8] (by kernel_rfl) rfl (fun hHeld => ?_))
    have HCT := hid (sync_v b base L2 s2 (N + 2 * fy.length + 5) jb w2.drew K2d.out.M.H ⟨hj.1, by omega⟩ (by omega) hb2.out)
    generalize w2.drew = wd at *
    refine wpAnyS_pure 0 (v := ?_) (fun _ => trivial) (by simp only [List.getElem?_toArray, List.getElem?_cons_succ, List.getElem?_cons_zero]; rfl) (by kernel_rfl) (fun _ _ _ _ _ h => h) ⟨rfl, (by intro c h; cases h), ?_⟩ hHeld ?_
    rotate_left
    focus (intro wS hSw; (try replace hSw := HSF.out wS hSw); (try dsimp only at hSw); go_simp; (try with_reducible rfl))
    (try simp only [Act.put, List.setIfInBounds_toArray, List.set_cons_zero, List.set_cons_succ])
    refine wpAnyS_pure 1 (v := ?_) (fun _ => trivial) (by simp only [List.getElem?_toArray, List.getElem?_cons_succ, List.getElem?_cons_zero]; rfl) (by kernel_rfl) (fun _ _ _ _ _ h => h) ⟨rfl, (by intro c h; cases h), ?_⟩ hHeld ?_
    rotate_left
    focus (intro wS hSw; (try replace hSw := HSF.out wS hSw); (try dsimp only at hSw); go_simp; (try with_reducible rfl))
    (try simp only [Act.put, List.setIfInBounds_toArray, List.set_cons_zero, List.set_cons_succ])
    refine wpAnyS_pure 2 (v := ?_) (fun _ => trivial) (by simp only [List.getElem?_toArray, List.getElem?_cons_succ, List.getElem?_cons_zero]; rfl) (by kernel_rfl) (fun _ _ _ _ _ h => h) ⟨rfl, (by intro c h; cases h), ?_⟩ hHeld ?_
    rotate_left
    focus (intro wS hSw; (try replace hSw := HSF.out wS hSw); (try dsimp only at hSw); go_simp; (try with_reducible rfl))
    (try simp only [Act.put, List.setIfInBounds_toArray, List.set_cons_zero, List.set_cons_succ])
    refine wpAnyS_take 3 (v := ?_) (fun _ => trivial) (by simp only [List.getElem?_toArray, List.getElem?_cons_succ, List.getElem?_cons_zero]; rfl) (by kernel_rfl) (fun _ _ _ _ _ h => h) ⟨rfl, (by intro c h; cases h), ?_⟩ hHeld ?_
    rotate_left
    focus (intro wS hSw; (try replace hSw := HSF.out wS hSw); (try dsimp only at hSw); go_simp; (try with_reducible rfl))
    (try simp only [Act.put, List.setIfInBounds_toArray, List.set_cons_zero, List.set_cons_succ])
    refine wpAnyS_pure 4 (v := ?_) (fun _ => trivial) (by simp only [List.getElem?_toArray, List.getElem?_cons_succ, List.getElem?_cons_zero]; rfl) (by kernel_rfl) (fun _ _ _ _ _ h => h) ⟨rfl, (by intro c h; cases h), ?_⟩ hHeld ?_
    rotate_left
    focus (intro wS hSw; (try replace hSw := HSF.out wS hSw); (try dsimp only at hSw); go_simp; (try with_reducible rfl))
    (try simp only [Act.put, List.setIfInBounds_toArray, List.set_cons_zero, List.set_cons_succ])
    refine wpAnyS_pure 5 (v := ?_) (fun _ => trivial) (by simp only [List.getElem?_toArray, List.getElem?_cons_succ, List.getElem?_cons_zero]; rfl) (by kernel_rfl) (fun _ _ _ _ _ h => h) ⟨rfl, (by intro c h; cases h), ?_⟩ hHeld ?_
    rotate_left
    focus (intro wS hSw; (try replace hSw := HSF.out wS hSw); (try dsimp only at hSw); go_simp; (try with_reducible rfl))
    (try simp only [Act.put, List.setIfInBounds_toArray, List.set_cons_zero, List.set_cons_succ])
    refine wpAnyS_pure 6 (v := ?_) (fun _ => trivial) (by simp only [List.getElem?_toArray, List.getElem?_cons_succ, List.getElem?_cons_zero]; rfl) (by kernel_rfl) (fun _ _ _ _ _ h => h) ⟨rfl, (by intro c h; cases h), ?_⟩ hHeld ?_
    rotate_left
    focus (intro wS hSw; (try replace hSw := HSF.out wS hSw); (try dsimp only at hSw); go_simp; (try with_reducible rfl))
    (try simp only [Act.put, List.setIfInBounds_toArray, List.set_cons_zero, List.set_cons_succ])
    refine wpAnyS_take 7 (v := ?_) (fun _ => trivial) (by simp only [List.getElem?_toArray, List.getElem?_cons_succ, List.getElem?_cons_zero]; rfl) (by kernel_rfl) (fun _ _ _ _ _ h => h) ⟨rfl, (by intro c h; cases h), ?_⟩ hHeld ?_
    rotate_left
    focus (intro wS hSw; (try replace hSw := HSF.out wS hSw); (try dsimp only at hSw); go_simp; (try with_reducible rfl))
    (try simp only [Act.put, List.setIfInBounds_toArray, List.set_cons_zero, List.set_cons_succ])
    refine wpAnyS_ready [8] (by kernel_rfl) (by simp) (AllReadyS.consL (by simp only [List.getElem?_toArray, List.getElem?_cons_succ, List.getElem?_cons_zero]; rfl) rfl (by kernel_rfl) (fun K hK => ?_) AllReadyS.nil)
    refine callV (by intro c h; cases h) (by go_simp; try with_reducible rfl) HCT.out ?_
    intro vv w3 hR
    obtain ⟨ec, L3, s3, rfl, hP, hD3, hC3, hl3⟩ := hR
    have K3 := hid (K2d.out.dsk hD3 hC3 hl3)
    obtain ⟨p1, p2, p3, p4⟩ := log_sync HG.out S2.out hP
    have P1 := hid p1; have P2 := hid p2; have P3 := hid p3; have P4 := hid p4
    have hb3 := hid (Nat.le_trans hbase K3.out.C.size)
    refine hK.out _ _ ?_
    (try simp only [Act.put, List.setIfInBounds_toArray, List.set_cons_zero, List.set_cons_succ])
    clear hK K hHeld hP hD3 hC3 hl3 p1 p2 p3 p4 HCT HSF
    refine wpAnyS_pureL 9 (v := ?_) (fun _ => trivial) (by simp only [List.getElem?_toArray, List.getElem?_cons_succ, List.getElem?_cons_zero]; rfl) (by kernel_rfl) (by kernel_rfl) (fun _ _ _ _ _ h => h) ⟨rfl, (by intro c h; cases h), ?_⟩ ?_
    rotate_left
    focus (intro wS hSw; (try replace hSw := HSF.out wS hSw); (try dsimp only at hSw); go_simp; (try with_reducible rfl))
    (try simp only [Act.put, List.setIfInBounds_toArray, List.set_cons_zero, List.set_cons_succ])
    refine wpAnyS_done (by kernel_rfl) ?_
    by_cases he : ec = 0
    case neg =>
      have he2 : ec ≠ 0 := he
      have heb : (ec == 0) = false := by simpa using he
      have heb2 : (ec != 0) = true := by simpa using he
      have j5 := K3.out.M.J.cell 5; have jl := K3.out.M.J.lt; have jf := K3.out.M.J.frozen 5
      simp at j5
      have hg5 := hid (gr_set w3 jk 5 (.bool true))
      have K4 := hid (K3.out.own hg5.out (v2 := v) (l2 := l) (br2 := true) (by simpa using K3.out.M.J.set_ 5 (.bool true)) (LOwn.ofj K3.out.M hg5.out) (fun _ h => .inl h))
      clear K2 K3 K2d
      go_wp2_with fail
      go_ret
      exact ⟨ec, L3, s3, v, l, slot, cv, u, true, rfl, .inr (.inr (.inr ⟨rfl, HY.out, HFIT.out, HAP.out ec s3 (P2.out.resolve_left he) ((P4.out he).mono (fun x hx => .inl hx)) (fun h => (P3.out (C2.out h)).1), fun h => absurd h he, fun _ => ⟨rfl, rfl⟩⟩)), K4.out.mono (by omega)⟩
    subst he
    have G3 := hid (P1.out (by first | rfl | trivial))
    have C3 := hid (fun h => (P3.out (C2.out h)).2)
    clear P1 P2 P3 P4 K2 K2d S2 C2
    -- what is there is noted
    obtain ⟨Al, cl, hvf, -, -, -⟩ := K3.out.M.l.form
    go_upto_region 14 with fail
    have K3d := hid (K3.out.below (Below.refl _ w3).drew)
    have HSF := hid (fun (wq : World) (hq : wq = w3.drew) => show wq.cell? ⟨jk, 4, none⟩ = some (.int .i64 (fl : Int)) ∧ wq.cell? ⟨jk, 3, none⟩ = some (.slice Al l.length cl) ∧ jk < wq.heap.size from by rw [hq]; exact ⟨by rw [HFL.out]; exact K3d.out.M.J.cell 4, by rw [← hvf]; exact K3d.out.M.J.cell 3, K3d.out.M.J.lt⟩)
    refine wpIn_wide.1 (wpIn_region_S (n := 0) (fun wq => wq = w3.drew) [16] (by kernel_rfl) rfl (fun hHeld => ?_))
    have HCT := note_any base jk b cb L3 s3 jb v l slot cv u false (N + 2 * fy.length + 5 + 1) ((formB (l ++ ys)).length : Nat) ((l ++ ys).length : Nat) w3.drew K3d.out.M G3.out.1.up hj G3.out.1.d2 G3.out.1.cell ⟨by omega, by rw [form_app, List.length_append]; have := HFIT.out; omega⟩ ⟨by omega, by rw [List.length_append]; omega⟩ (by omega) hb3.out
    have hnb : encI ((formB (l ++ ys)).length : Nat) ++ encI ((l ++ ys).length : Nat) = noteB (l ++ ys) := rfl
    rw [hnb] at HCT
    rw [form_app, List.length_append, ← HFL.out, ← HFY.out, List.length_append] at HCT
    have hi1 : ((fl + fy.length : Nat) : Int) = (fl : Int) + (fy.length : Int) := by omega
    have hi2 : ((l.length + ys.length : Nat) : Int) = (l.length : Int) + (ys.length : Int) := by omega
    rw [hi1, hi2] at HCT
    have HCT := hid HCT
    have HVF := hid hvf
    have hwr1 : IntKind.i64.wrap ((fl : Int) + (fy.length : Int)) = (fl : Int) + (fy.length : Int) := i64_in _ (by omega)
    have hwr2 : IntKind.i64.wrap ((l.length : Int) + (ys.length : Int)) = (l.length : Int) + (ys.length : Int) := i64_in _ (by omega)
    clear hnb hi1 hi2 hvf
    generalize w3.drew = wd at *
    refine wpAnyS_pure 0 (v := ?_) (fun _ => trivial) (by simp only [List.getElem?_toArray, List.getElem?_cons_succ, List.getElem?_cons_zero]; rfl) (by kernel_rfl) (fun _ _ _ _ _ h => h) ⟨rfl, (by intro c h; cases h), ?_⟩ hHeld ?_
    rotate_left
    focus (intro wS hSw; (try replace hSw := HSF.out wS hSw); (try dsimp only at hSw); go_simp; (try with_reducible rfl))
    (try simp only [Act.put, List.setIfInBounds_toArray, List.set_cons_zero, List.set_cons_succ])
    refine wpAnyS_pure 1 (v := ?_) (fun _ => trivial) (by simp only [List.getElem?_toArray, List.getElem?_cons_succ, List.getElem?_cons_zero]; rfl) (by kernel_rfl) (fun _ _ _ _ _ h => h) ⟨rfl, (by intro c h; cases h), ?_⟩ hHeld ?_
    rotate_left
    focus (intro wS hSw; (try replace hSw := HSF.out wS hSw); (try dsimp only at hSw); go_simp; (try with_reducible rfl))
    (try simp only [Act.put, List.setIfInBounds_toArray, List.set_cons_zero, List.set_cons_succ])
    refine wpAnyS_pure 2 (v := ?_) (fun _ => trivial) (by simp only [List.getElem?_toArray, List.getElem?_cons_succ, List.getElem?_cons_zero]; rfl) (by kernel_rfl) (fun _ _ _ _ _ h => h) ⟨rfl, (by intro c h; cases h), ?_⟩ hHeld ?_
    rotate_left
    focus (intro wS hSw; (try replace hSw := HSF.out wS hSw); (try dsimp only at hSw); go_simp; (try with_reducible rfl))
    (try simp only [Act.put, List.setIfInBounds_toArray, List.set_cons_zero, List.set_cons_succ])
    refine wpAnyS_pure 3 (v := ?_) (fun _ => trivial) (by simp only [List.getElem?_toArray, List.getElem?_cons_succ, List.getElem?_cons_zero]; rfl) (by kernel_rfl) (fun _ _ _ _ _ h => h) ⟨rfl, (by intro c h; cases h), ?_⟩ hHeld ?_
    rotate_left
    focus (intro wS hSw; (try replace hSw := HSF.out wS hSw); (try dsimp only at hSw); go_simp; (try with_reducible rfl))
    (try simp only [Act.put, List.setIfInBounds_toArray, List.set_cons_zero, List.set_cons_succ])
    refine wpAnyS_take 4 (v := ?_) (fun _ => trivial) (by simp only [List.getElem?_toArray, List.getElem?_cons_succ, List.getElem?_cons_zero]; rfl) (by kernel_rfl) (fun _ _ _ _ _ h => h) ⟨rfl, (by intro c h; cases h), ?_⟩ hHeld ?_
    rotate_left
    focus (intro wS hSw; (try replace hSw := HSF.out wS hSw); (try dsimp only at hSw); go_simp; (try with_reducible rfl))
    (try simp only [Act.put, List.setIfInBounds_toArray, List.set_cons_zero, List.set_cons_succ])
    refine wpAnyS_pure 5 (v := ?_) (fun _ => trivial) (by simp only [List.getElem?_toArray, List.getElem?_cons_succ, List.getElem?_cons_zero]; rfl) (by kernel_rfl) (fun _ _ _ _ _ h => h) ⟨rfl, (by intro c h; cases h), ?_⟩ hHeld ?_
    rotate_left
    focus (intro wS hSw; (try replace hSw := HSF.out wS hSw); (try dsimp only at hSw); go_simp; (try with_reducible rfl))
    (try simp only [Act.put, List.setIfInBounds_toArray, List.set_cons_zero, List.set_cons_succ])
    refine wpAnyS_pure 6 (v := ?_) (fun _ => trivial) (by simp only [List.getElem?_toArray, List.getElem?_cons_succ, List.getElem?_cons_zero]; rfl) (by kernel_rfl) (fun _ _ _ _ _ h => h) ⟨rfl, (by intro c h; cases h), ?_⟩ hHeld ?_
    rotate_left
    focus (intro wS hSw; (try replace hSw := HSF.out wS hSw); (try dsimp only at hSw); go_simp; (try with_reducible rfl))
    (try simp only [Act.put, List.setIfInBounds_toArray, List.set_cons_zero, List.set_cons_succ])
    refine wpAnyS_pure 7 (v := ?_) (fun _ => trivial) (by simp only [List.getElem?_toArray, List.getElem?_cons_succ, List.getElem?_cons_zero]; rfl) (by kernel_rfl) (fun _ _ _ _ _ h => h) ⟨rfl, (by intro c h; cases h), ?_⟩ hHeld ?_
    rotate_left
    focus (intro wS hSw; (try replace hSw := HSF.out wS hSw); (try dsimp only at hSw); go_simp; (try with_reducible rfl))
    (try simp only [Act.put, List.setIfInBounds_toArray, List.set_cons_zero, List.set_cons_succ])
    refine wpAnyS_pure 8 (v := ?_) (fun _ => trivial) (by simp only [List.getElem?_toArray, List.getElem?_cons_succ, List.getElem?_cons_zero]; rfl) (by kernel_rfl) (fun _ _ _ _ _ h => h) ⟨rfl, (by intro c h; cases h), ?_⟩ hHeld ?_
    rotate_left
    focus (intro wS hSw; (try replace hSw := HSF.out wS hSw); (try dsimp only at hSw); go_simp; (try with_reducible rfl))
    (try simp only [Act.put, List.setIfInBounds_toArray, List.set_cons_zero, List.set_cons_succ])
    refine wpAnyS_pure 9 (v := ?_) (fun _ => trivial) (by simp only [List.getElem?_toArray, List.getElem?_cons_succ, List.getElem?_cons_zero]; rfl) (by kernel_rfl) (fun _ _ _ _ _ h => h) ⟨rfl, (by intro c h; cases h), ?_⟩ hHeld ?_
    rotate_left
    focus (intro wS hSw; (try replace hSw := HSF.out wS hSw); (try dsimp only at hSw); go_simp; (try with_reducible rfl))
    (try simp only [Act.put, List.setIfInBounds_toArray, List.set_cons_zero, List.set_cons_succ])
    refine wpAnyS_pure 10 (v := ?_) (fun _ => trivial) (by simp only [List.getElem?_toArray, List.getElem?_cons_succ, List.getElem?_cons_zero]; rfl) (by kernel_rfl) (fun _ _ _ _ _ h => h) ⟨rfl, (by intro c h; cases h), ?_⟩ hHeld ?_
    rotate_left
    focus (intro wS hSw; (try replace hSw := HSF.out wS hSw); (try dsimp only at hSw); go_simp; (try with_reducible rfl))
    (try simp only [Act.put, List.setIfInBounds_toArray, List.set_cons_zero, List.set_cons_succ])
    refine wpAnyS_take 11 (v := ?_) (fun _ => trivial) (by simp only [List.getElem?_toArray, List.getElem?_cons_succ, List.getElem?_cons_zero]; rfl) (by kernel_rfl) (fun _ _ _ _ _ h => h) ⟨rfl, (by intro c h; cases h), ?_⟩ hHeld ?_
    rotate_left
    focus (intro wS hSw; (try replace hSw := HSF.out wS hSw); (try dsimp only at hSw); go_simp; (try with_reducible rfl))
    (try simp only [Act.put, List.setIfInBounds_toArray, List.set_cons_zero, List.set_cons_succ])
    refine wpAnyS_pure 12 (v := ?_) (fun _ => trivial) (by simp only [List.getElem?_toArray, List.getElem?_cons_succ, List.getElem?_cons_zero]; rfl) (by kernel_rfl) (fun _ _ _ _ _ h => h) ⟨rfl, (by intro c h; cases h), ?_⟩ hHeld ?_
    rotate_left
    focus (intro wS hSw; (try replace hSw := HSF.out wS hSw); (try dsimp only at hSw); go_simp; (try with_reducible rfl))
    (try simp only [Act.put, List.setIfInBounds_toArray, List.set_cons_zero, List.set_cons_succ])
    refine wpAnyS_pure 13 (v := ?_) (fun _ => trivial) (by simp only [List.getElem?_toArray, List.getElem?_cons_succ, List.getElem?_cons_zero]; rfl) (by kernel_rfl) (fun _ _ _ _ _ h => h) ⟨rfl, (by intro c h; cases h), ?_⟩ hHeld ?_
    rotate_left
    focus (intro wS hSw; (try replace hSw := HSF.out wS hSw); (try dsimp only at hSw); go_simp; (try with_reducible rfl))
    (try simp only [Act.put, List.setIfInBounds_toArray, List.set_cons_zero, List.set_cons_succ])
    refine wpAnyS_pure 14 (v := ?_) (fun _ => trivial) (by simp only [List.getElem?_toArray, List.getElem?_cons_succ, List.getElem?_cons_zero]; rfl) (by kernel_rfl) (fun _ _ _ _ _ h => h) ⟨rfl, (by intro c h; cases h), ?_⟩ hHeld ?_
    rotate_left
    focus (intro wS hSw; (try replace hSw := HSF.out wS hSw); (try dsimp only at hSw); go_simp; (try with_reducible rfl))
    (try simp only [Act.put, List.setIfInBounds_toArray, List.set_cons_zero, List.set_cons_succ])
    refine wpAnyS_pure 15 (v := ?_) (fun _ => trivial) (by simp only [List.getElem?_toArray, List.getElem?_cons_succ, List.getElem?_cons_zero]; rfl) (by kernel_rfl) (fun _ _ _ _ _ h => h) ⟨rfl, (by intro c h; cases h), ?_⟩ hHeld ?_
    rotate_left
    focus (intro wS hSw; (try replace hSw := HSF.out wS hSw); (try dsimp only at hSw); go_simp; (try with_reducible rfl))
    (try simp only [Act.put, List.setIfInBounds_toArray, List.set_cons_zero, List.set_cons_succ])
    refine wpAnyS_ready [16] (by kernel_rfl) (by simp) (AllReadyS.consL (by simp only [List.getElem?_toArray, List.getElem?_cons_succ, List.getElem?_cons_zero]; rfl) rfl (by kernel_rfl) (fun K hK => ?_) AllReadyS.nil)
    refine callV (by intro c h; cases h) (by go_simp; try with_reducible rfl) HCT.out ?_
    intro vv w4 hR
    obtain ⟨ec, L4, s4, slot4, cv4, u4, rfl, hP, hnew, hM4, hC4, hl4⟩ := hR
    have K4 := hid (K3d.out.note hM4 hC4 hl4)
    have HNEW := hid hnew
    obtain ⟨q1, q2, q3⟩ := note_law G3.out.1.d1 G3.out.1.log G3.out.2.1 hP
    have Q1 := hid q1; have Q2 := hid q2; have Q3 := hid q3
    have hb4 := hid (Nat.le_trans hbase K4.out.C.size)
    refine hK.out _ _ ?_
    (try simp only [Act.put, List.setIfInBounds_toArray, List.set_cons_zero, List.set_cons_succ])
    clear hK K hHeld hP hnew hM4 hC4 hl4 q1 q2 q3 HCT HSF
    refine wpAnyS_pureL 17 (v := ?_) (fun _ => trivial) (by simp only [List.getElem?_toArray, List.getElem?_cons_succ, List.getElem?_cons_zero]; rfl) (by kernel_rfl) (by kernel_rfl) (fun _ _ _ _ _ h => h) ⟨rfl, (by intro c h; cases h), ?_⟩ ?_
    rotate_left
    focus (intro wS hSw; (try replace hSw := HSF.out wS hSw); (try dsimp only at hSw); go_simp; (try with_reducible rfl))
    (try simp only [Act.put, List.setIfInBounds_toArray, List.set_cons_zero, List.set_cons_succ])
    refine wpAnyS_done (by kernel_rfl) ?_
    by_cases he : ec = 0
    case neg =>
      have he2 : ec ≠ 0 := he
      have heb2 : (ec != 0) = true := by simpa using he
      have K5 := hid (show JRes w base jk b cb L jb v (N + 2 * fy.length + 5 + 1 + 120) L4 s4 v l slot4 cv4 u4 true w4 by have := K4.out; simpa [he] using this)
      clear K3 K3d K4
      go_wp2_with fail
      go_ret
      exact ⟨ec, L4, s4, v, l, slot4, cv4, u4, true, rfl, .inr (.inr (.inr ⟨rfl, HY.out, HFIT.out, HAP.out ec s4 (Q2.out he).1 (Q2.out he).2 (fun h => (Q3.out (C3.out h)).1), fun h => absurd h he, fun _ => ⟨rfl, rfl⟩⟩)), K5.out.mono (by omega)⟩
    subst he
    have K5 := hid (show JRes w base jk b cb L jb v (N + 2 * fy.length + 5 + 1 + 120) L4 s4 v l slot4 cv4 u4 false w4 by have := K4.out; simpa using this)
    have G4 := hid (Q1.out (by first | rfl | trivial))
    have HNW := hid (HNEW.out (by first | rfl | trivial))
    have C4 := hid (fun h => (Q3.out (C3.out h)).2)
    clear Q1 Q2 Q3 K3 K3d K4 C3 HNEW
    go_upto_region 17 with fail
    have K5d := hid (K5.out.below (Below.refl _ w4).drew)
    have S0 := hid (show w4.drew.cell? ⟨jk, 3, none⟩ = some (.slice Al l.length cl) ∧ w4.drew.cell? ⟨jk, 4, none⟩ = some (.int .i64 (fl : Int)) ∧ jk < w4.drew.heap.size from ⟨by rw [← HVF.out]; exact K5d.out.M.J.cell 3, by rw [HFL.out]; exact K5d.out.M.J.cell 4, K5d.out.M.J.lt⟩)
    have HSF := hid (fun (wq : World) (hq : wq.cell? ⟨jk, 3, none⟩ = some (.slice Al l.length cl) ∧ wq.cell? ⟨jk, 4, none⟩ = some (.int .i64 (fl : Int)) ∧ jk < wq.heap.size) => hq)
    refine wpIn_wide.1 (wpIn_region_S (n := 0) (fun wq => wq.cell? ⟨jk, 3, none⟩ = some (.slice Al l.length cl) ∧ wq.cell? ⟨jk, 4, none⟩ = some (.int .i64 (fl : Int)) ∧ jk < wq.heap.size) [17, 20] (by kernel_rfl) S0.out (fun hHeld => ?_))
    have hbd := hid (show base ≤ w4.drew.heap.size from hb4.out)
    generalize w4.drew = wd at *
    refine wpAnyS_pure 0 (v := ?_) (fun _ => trivial) (by simp only [List.getElem?_toArray, List.getElem?_cons_succ, List.getElem?_cons_zero]; rfl) (by kernel_rfl) (fun _ _ _ _ _ h => h) ⟨rfl, (by intro c h; cases h), ?_⟩ hHeld ?_
    rotate_left
    focus (intro wS hSw; (try replace hSw := HSF.out wS hSw); (try dsimp only at hSw); go_simp; (try with_reducible rfl))
    (try simp only [Act.put, List.setIfInBounds_toArray, List.set_cons_zero, List.set_cons_succ])
    refine wpAnyS_pure 1 (v := ?_) (fun _ => trivial) (by simp only [List.getElem?_toArray, List.getElem?_cons_succ, List.getElem?_cons_zero]; rfl) (by kernel_rfl) (fun _ _ _ _ _ h => h) ⟨rfl, (by intro c h; cases h), ?_⟩ hHeld ?_
    rotate_left
    focus (intro wS hSw; (try replace hSw := HSF.out wS hSw); (try dsimp only at hSw); go_simp; (try with_reducible rfl))
    (try simp only [Act.put, List.setIfInBounds_toArray, List.set_cons_zero, List.set_cons_succ])
    refine wpAnyS_pure 2 (v := ?_) (fun _ => trivial) (by simp only [List.getElem?_toArray, List.getElem?_cons_succ, List.getElem?_cons_zero]; rfl) (by kernel_rfl) (fun _ _ _ _ _ h => h) ⟨rfl, (by intro c h; cases h), ?_⟩ hHeld ?_
    rotate_left
    focus (intro wS hSw; (try replace hSw := HSF.out wS hSw); (try dsimp only at hSw); go_simp; (try with_reducible rfl))
    (try simp only [Act.put, List.setIfInBounds_toArray, List.set_cons_zero, List.set_cons_succ])
    refine wpAnyS_pure 3 (v := ?_) (fun _ => trivial) (by simp only [List.getElem?_toArray, List.getElem?_cons_succ, List.getElem?_cons_zero]; rfl) (by kernel_rfl) (fun _ _ _ _ _ h => h) ⟨rfl, (by intro c h; cases h), ?_⟩ hHeld ?_
    rotate_left
    focus (intro wS hSw; (try replace hSw := HSF.out wS hSw); (try dsimp only at hSw); go_simp; (try with_reducible rfl))
    (try simp only [Act.put, List.setIfInBounds_toArray, List.set_cons_zero, List.set_cons_succ])
    refine wpAnyS_pure 4 (v := ?_) (fun _ => trivial) (by simp only [List.getElem?_toArray, List.getElem?_cons_succ, List.getElem?_cons_zero]; rfl) (by kernel_rfl) (fun _ _ _ _ _ h => h) ⟨rfl, (by intro c h; cases h), ?_⟩ hHeld ?_
    rotate_left
    focus (intro wS hSw; (try replace hSw := HSF.out wS hSw); (try dsimp only at hSw); go_simp; (try with_reducible rfl))
    (try simp only [Act.put, List.setIfInBounds_toArray, List.set_cons_zero, List.set_cons_succ])
    refine wpAnyS_take 5 (v := ?_) (fun _ => trivial) (by simp only [List.getElem?_toArray, List.getElem?_cons_succ, List.getElem?_cons_zero]; rfl) (by kernel_rfl) (fun _ _ _ _ _ h => h) ⟨rfl, (by intro c h; cases h), ?_⟩ hHeld ?_
    rotate_left
    focus (intro wS hSw; (try replace hSw := HSF.out wS hSw); (try dsimp only at hSw); go_simp; (try with_reducible rfl))
    (try simp only [Act.put, List.setIfInBounds_toArray, List.set_cons_zero, List.set_cons_succ])
    refine wpAnyS_pure 6 (v := ?_) (fun _ => trivial) (by simp only [List.getElem?_toArray, List.getElem?_cons_succ, List.getElem?_cons_zero]; rfl) (by kernel_rfl) (fun _ _ _ _ _ h => h) ⟨rfl, (by intro c h; cases h), ?_⟩ hHeld ?_
    rotate_left
    focus (intro wS hSw; (try replace hSw := HSF.out wS hSw); (try dsimp only at hSw); go_simp; (try with_reducible rfl))
    (try simp only [Act.put, List.setIfInBounds_toArray, List.set_cons_zero, List.set_cons_succ])
    refine wpAnyS_pure 8 (v := ?_) (fun _ => trivial) (by simp only [List.getElem?_toArray, List.getElem?_cons_succ, List.getElem?_cons_zero]; rfl) (by kernel_rfl) (fun _ _ _ _ _ h => h) ⟨rfl, (by intro c h; cases h), ?_⟩ hHeld ?_
    rotate_left
    focus (intro wS hSw; (try replace hSw := HSF.out wS hSw); (try dsimp only at hSw); go_simp; (try with_reducible rfl))
    (try simp only [Act.put, List.setIfInBounds_toArray, List.set_cons_zero, List.set_cons_succ])
    refine wpAnyS_pure 9 (v := ?_) (fun _ => trivial) (by simp only [List.getElem?_toArray, List.getElem?_cons_succ, List.getElem?_cons_zero]; rfl) (by kernel_rfl) (fun _ _ _ _ _ h => h) ⟨rfl, (by intro c h; cases h), ?_⟩ hHeld ?_
    rotate_left
    focus (intro wS hSw; (try replace hSw := HSF.out wS hSw); (try dsimp only at hSw); go_simp; (try with_reducible rfl))
    (try simp only [Act.put, List.setIfInBounds_toArray, List.set_cons_zero, List.set_cons_succ])
    refine wpAnyS_pure 10 (v := ?_) (fun _ => trivial) (by simp only [List.getElem?_toArray, List.getElem?_cons_succ, List.getElem?_cons_zero]; rfl) (by kernel_rfl) (fun _ _ _ _ _ h => h) ⟨rfl, (by intro c h; cases h), ?_⟩ hHeld ?_
    rotate_left
    focus (intro wS hSw; (try replace hSw := HSF.out wS hSw); (try dsimp only at hSw); go_simp; (try with_reducible rfl))
    (try simp only [Act.put, List.setIfInBounds_toArray, List.set_cons_zero, List.set_cons_succ])
    refine wpAnyS_take 11 (v := ?_) (fun _ => trivial) (by simp only [List.getElem?_toArray, List.getElem?_cons_succ, List.getElem?_cons_zero]; rfl) (by kernel_rfl) (fun _ _ _ _ _ h => h) ⟨rfl, (by intro c h; cases h), ?_⟩ hHeld ?_
    rotate_left
    focus (intro wS hSw; (try replace hSw := HSF.out wS hSw); (try dsimp only at hSw); go_simp; (try with_reducible rfl))
    (try simp only [Act.put, List.setIfInBounds_toArray, List.set_cons_zero, List.set_cons_succ])
    refine wpAnyS_pure 12 (v := ?_) (fun _ => trivial) (by simp only [List.getElem?_toArray, List.getElem?_cons_succ, List.getElem?_cons_zero]; rfl) (by kernel_rfl) (fun _ _ _ _ _ h => h) ⟨rfl, (by intro c h; cases h), ?_⟩ hHeld ?_
    rotate_left
    focus (intro wS hSw; (try replace hSw := HSF.out wS hSw); (try dsimp only at hSw); go_simp; (try with_reducible rfl))
    (try simp only [Act.put, List.setIfInBounds_toArray, List.set_cons_zero, List.set_cons_succ])
    refine wpAnyS_pure 13 (v := ?_) (fun _ => trivial) (by simp only [List.getElem?_toArray, List.getElem?_cons_succ, List.getElem?_cons_zero]; rfl) (by kernel_rfl) (fun _ _ _ _ _ h => h) ⟨rfl, (by intro c h; cases h), ?_⟩ hHeld ?_
    rotate_left
    focus (intro wS hSw; (try replace hSw := HSF.out wS hSw); (try dsimp only at hSw); go_simp; (try with_reducible rfl))
    (try simp only [Act.put, List.setIfInBounds_toArray, List.set_cons_zero, List.set_cons_succ])
    refine wpAnyS_pure 14 (v := ?_) (fun _ => trivial) (by simp only [List.getElem?_toArray, List.getElem?_cons_succ, List.getElem?_cons_zero]; rfl) (by kernel_rfl) (fun _ _ _ _ _ h => h) ⟨rfl, (by intro c h; cases h), ?_⟩ hHeld ?_
    rotate_left
    focus (intro wS hSw; (try replace hSw := HSF.out wS hSw); (try dsimp only at hSw); go_simp; (try with_reducible rfl))
    (try simp only [Act.put, List.setIfInBounds_toArray, List.set_cons_zero, List.set_cons_succ])
    refine wpAnyS_ready [7] (by kernel_rfl) (by simp) (AllReadyS.cons (by simp only [List.getElem?_toArray, List.getElem?_cons_succ, List.getElem?_cons_zero]; rfl) rfl (fun K hK => ?_) AllReadyS.nil)
    have HLW := hid (show LOwn wd base (.slice Al l.length cl) l by rw [← HVF.out]; exact K5d.out.M.l)
    refine LOwn.appS (fun _ => trivial) (.tmp 84) (.tmp 85) rfl (ys := ys) (c := c) rfl HLW.out rfl (HSL.out wd K5d.out.C) hpos (by omega) hbd.out ?_
    intro A6 c6 w6 hO6 hg6 hl6
    have O6 := hid hO6
    have L6 := hid hl6
    have G6 := hid (show wd.grownBy w6 v.ownBlock by rw [HVF.out]; exact hg6)
    obtain ⟨hD6, hX6, hJ6, hE6⟩ := K5d.out.M.grew G6.out hbd.out
    have J6 := hid hJ6
    have S6 := hid (show w6.cell? ⟨jk, 3, none⟩ = some (.slice Al l.length cl) ∧ w6.cell? ⟨jk, 4, none⟩ = some (.int .i64 (fl : Int)) ∧ jk < w6.heap.size from ⟨by rw [← HVF.out]; exact J6.out.cell 3, by rw [HFL.out]; exact J6.out.cell 4, J6.out.lt⟩)
    have f6 := J6.out.frozen
    refine hK.out _ _ S6.out ?_
    (try simp only [Act.put, List.setIfInBounds_toArray, List.set_cons_zero, List.set_cons_succ])
    clear hK K hHeld hO6 hg6 hl6 hD6 hX6 hJ6 hE6
    have hHeld := S6.out
    have d3 := S6.out.1; have d4 := S6.out.2.1; have dl := S6.out.2.2
    refine wpAnyS_pure 15 (v := ?_) (fun _ => trivial) (by simp only [List.getElem?_toArray, List.getElem?_cons_succ, List.getElem?_cons_zero]; rfl) (by kernel_rfl) (fun _ _ _ _ _ h => h) ⟨rfl, (by intro c h; cases h), ?_⟩ hHeld ?_
    rotate_left
    focus (intro wS hSw; (try replace hSw := HSF.out wS hSw); (try dsimp only at hSw); go_simp; (try with_reducible rfl))
    (try simp only [Act.put, List.setIfInBounds_toArray, List.set_cons_zero, List.set_cons_succ])
    refine wpAnyS_pure 16 (v := ?_) (fun _ => trivial) (by simp only [List.getElem?_toArray, List.getElem?_cons_succ, List.getElem?_cons_zero]; rfl) (by kernel_rfl) (fun _ _ _ _ _ h => h) ⟨rfl, (by intro c h; cases h), ?_⟩ hHeld ?_
    rotate_left
    focus (intro wS hSw; (try replace hSw := HSF.out wS hSw); (try dsimp only at hSw); go_simp; (try with_reducible rfl))
    (try simp only [Act.put, List.setIfInBounds_toArray, List.set_cons_zero, List.set_cons_succ])
    refine wpAnyS_ready [17] (by kernel_rfl) (by simp) (AllReadyS.consL (by simp only [List.getElem?_toArray, List.getElem?_cons_succ, List.getElem?_cons_zero]; rfl) rfl (by kernel_rfl) (fun K hK => ?_) AllReadyS.nil)
    go_simp
    refine hK.out _ _ ?_
    (try simp only [Act.put, List.setIfInBounds_toArray, List.set_cons_zero, List.set_cons_succ])
    clear hK K hHeld
    refine wpAnyS_pureL 18 (v := ?_) (fun _ => trivial) (by simp only [List.getElem?_toArray, List.getElem?_cons_succ, List.getElem?_cons_zero]; rfl) (by kernel_rfl) (by kernel_rfl) (fun _ _ _ _ _ h => h) ⟨rfl, (by intro c h; cases h), ?_⟩ ?_
    rotate_left
    focus (intro wS hSw; (try replace hSw := HSF.out wS hSw); (try dsimp only at hSw); go_simp; (try with_reducible rfl))
    (try simp only [Act.put, List.setIfInBounds_toArray, List.set_cons_zero, List.set_cons_succ])
    refine wpAnyS_pureL 19 (v := ?_) (fun _ => trivial) (by simp only [List.getElem?_toArray, List.getElem?_cons_succ, List.getElem?_cons_zero]; rfl) (by kernel_rfl) (by kernel_rfl) (fun _ _ _ _ _ h => h) ⟨rfl, (by intro c h; cases h), ?_⟩ ?_
    rotate_left
    focus (intro wS hSw; (try replace hSw := HSF.out wS hSw); (try dsimp only at hSw); go_simp; (try with_reducible rfl))
    (try simp only [Act.put, List.setIfInBounds_toArray, List.set_cons_zero, List.set_cons_succ])
    refine wpAnyS_ready [20] (by kernel_rfl) (by simp) (AllReadyS.consL (by simp only [List.getElem?_toArray, List.getElem?_cons_succ, List.getElem?_cons_zero]; rfl) rfl (by kernel_rfl) (fun K hK => ?_) AllReadyS.nil)
    go_simp
    refine hK.out _ _ ?_
    (try simp only [Act.put, List.setIfInBounds_toArray, List.set_cons_zero, List.set_cons_succ])
    clear hK K
    refine wpAnyS_done (by kernel_rfl) ?_
    go_wp2_with fail
    go_ret
    have hn : (fl : Int) + (fy.length : Int) = ((formB (l ++ ys)).length : Nat) := by rw [form_app, List.length_append, ← HFL.out, ← HFY.out]; omega
    refine ⟨0, L4, s4, _, l ++ ys, slot4, cv4, u4, false, rfl, .inr (.inr (.inr ⟨rfl, HY.out, HFIT.out, ⟨fun _ => ⟨G4.out.1, fun g h1 h2 => (G4.out.2 g h2).trans (G3.out.2.2 g h1)⟩, fun h => absurd rfl h, fun h => ⟨rfl, C4.out h⟩⟩, fun _ => ⟨rfl, rfl, HNW.out.1, HNW.out.2⟩, fun h => absurd rfl h⟩)), JRes.mono (N2 := N + 2 * fy.length + 200) (K5d.out.grow hbd.out G6.out O6.out ?_ (by have := L6.out; rw [← HVF.out] at this; exact this) hn) (by omega)⟩
    intro x hx
    rcases List.mem_append.1 hx with hx | hx
    · exact K5d.out.M.l.1 x hx
    · have := HYS.out x hx; unfold maxLen; omega
end Go.Proofs.YtbefmjodpndndaaDoor
