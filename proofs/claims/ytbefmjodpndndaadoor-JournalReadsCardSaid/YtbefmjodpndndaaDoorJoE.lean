
/- Journal: Open. -/
import Derived.Test.YtbefmjodpndndaaDoorJoD
set_option linter.unusedSimpArgs false
set_option linter.unusedVariables false
namespace Go.Proofs.YtbefmjodpndndaaDoor
open Go.RowKit Go.IntWalk

theorem OffE.at_ {w : World} (h : OffE w) {k : Nat} (hk : k = 1 ∨ k = 2) : w.cell? ⟨0, k, none⟩ = some (.int .i64 (offs k : Int)) := by
  rcases hk with rfl | rfl
  · exact h.2.1
  · exact h.2.2
/-- A call on the disk, as a value. -/
def DV (w : World) (base b : Nat) (L : DL) (N : Nat) (P : Int → DS → Prop) (v : Value) (w' : World) : Prop := ∃ (ec : Int) (L' : DL) (s' : DS), v = .int .i64 ec ∧ P ec s' ∧ Dsk w' base b L' s' N ∧ Chg w w' (DFP b L) ∧ ∀ k, DFP b L' k → DFP b L k ∨ w.heap.size ≤ k
theorem DRes.val {w w' : World} {base b : Nat} {L : DL} {N : Nat} {P : Int → DS → Prop} {e : Ending} (h : DRes w base b L N (fun e s' => ∃ ec : Int, e = .returned (.int .i64 ec) ∧ P ec s') e w') : ∃ v, e = .returned v ∧ DV w base b L N P v w' := by
  obtain ⟨L', s', ⟨ec, rfl, hP⟩, h1, h2, h3⟩ := h
  exact ⟨_, rfl, ec, L', s', rfl, hP, h1, h2, h3⟩
theorem sync_v (b base : Nat) (L : DL) (s : DS) (N : Nat) (f : Int) (w : World) (h : Dsk w base b L s N) (hf : 0 ≤ f ∧ f < 16) (hN : N + 1 ≤ 50000000) (hbase : base ≤ w.heap.size) :
    Calls Tryd.prog 33 #[.pointer (some ⟨b, 0, none⟩), .int .i64 f] w fun e w' => ∃ v, e = .returned v ∧ DV w base b L (N + 1) (SyR s f) v w' :=
  (sync_any b base L s N f w h hf hN hbase).mono fun _ _ h => h.val
theorem write_v (b base : Nat) (L : DL) (s : DS) (N : Nat) (f : Int) (p : Nat) (t : Bs) (w : World) (h : Dsk w base b L s N) (hf : 0 ≤ f ∧ f < 16) (hp : p + t.length ≤ 16777216) (hN : N + 2 * t.length + 5 ≤ 50000000) (hbase : base ≤ w.heap.size) :
    Calls Tryd.prog 10 #[.pointer (some ⟨b, 0, none⟩), .int .i64 f, .int .i64 (p : Int), .string (bs t)] w fun e w' => ∃ v, e = .returned v ∧ DV w base b L (N + 2 * t.length + 5) (WrR s f p t) v w' :=
  (dwrite_any b base L s N f p t w h hf hp hN hbase).mono fun _ _ h => h.val
/-- The disk and the cell while a value is being set. -/
structure CS (w w1 : World) (base b cb : Nat) (L L1 : DL) (s0 s1 : DS) (f : Int) (slot : Nat) (v : Bs) (u : Bool) (N : Nat) : Prop where
  H : Dsk w1 base b L1 s1 N
  C : Chg w w1 (fun k => DFP b L k ∨ k = cb)
  lo : ∀ k, DFP b L1 k → DFP b L k ∨ w.heap.size ≤ k
  X : Blk w1 cb 86 #[.pointer (some ⟨b, 0, none⟩), .int .i64 f, .int .i64 (slot : Int), .string (bs v), .bool u]
section
variable {w w1 w2 : World} {base b cb : Nat} {L L1 : DL} {s0 s1 : DS} {f : Int} {slot : Nat} {v : Bs} {u : Bool} {N N2 : Nat}
theorem CS.apart (h : CS w w1 base b cb L L1 s0 s1 f slot v u N) : ∀ k, DFP b L1 k → k ≠ cb := h.H.ne_blk h.X (by decide) (by decide) (by decide)
theorem CS.below (h : CS w w1 base b cb L L1 s0 s1 f slot v u N) (hb : Below w1.heap.size w1 w2) : CS w w2 base b cb L L1 s0 s1 f slot v u N :=
  ⟨h.H.below hb, Chg.trans h.C (Chg.of_below hb (fun _ => False)) (fun _ _ h => h.elim), h.lo, h.X.below hb h.X.lt⟩
theorem CS.drew (h : CS w w1 base b cb L L1 s0 s1 f slot v u N) : CS w w1.drew base b cb L L1 s0 s1 f slot v u N := h.below (Below.refl _ w1).drew
theorem CS.size (h : CS w w1 base b cb L L1 s0 s1 f slot v u N) (hb : base ≤ w.heap.size) : base ≤ w1.heap.size := Nat.le_trans hb h.C.size
theorem CS.call (h : CS w w1 base b cb L L1 s0 s1 f slot v u N) {P : Int → DS → Prop} {x : Value} (hr : DV w1 base b L1 N2 P x w2) : ∃ (ec : Int) (L2 : DL) (s2 : DS), x = .int .i64 ec ∧ P ec s2 ∧ CS w w2 base b cb L L2 s0 s2 f slot v u N2 := by
  obtain ⟨ec, L2, s2, rfl, hP, hD, hC, hl⟩ := hr
  refine ⟨ec, L2, s2, rfl, hP, hD, Chg.trans h.C hC (fun k hk hx => (h.lo k hx).elim .inl (fun e => by omega)), fun k hk => (hl k hk).elim (h.lo k) (fun e => .inr (Nat.le_trans h.C.size e)), hC.blk h.X (fun e => h.apart _ e rfl)⟩
/-- The cell's own block changes. -/
theorem CS.own (h : CS w w1 base b cb L L1 s0 s1 f slot v u N) (hg : w1.grownBy w2 (some cb)) {slot2 : Nat} {v2 : Bs} {u2 : Bool} (hX : Blk w2 cb 86 #[.pointer (some ⟨b, 0, none⟩), .int .i64 f, .int .i64 (slot2 : Int), .string (bs v2), .bool u2]) : CS w w2 base b cb L L1 s0 s1 f slot2 v2 u2 N := by
  have hC : Chg w1 w2 (fun k => k = cb) := Chg.of_grown hg (fun k e => by injection e)
  exact ⟨h.H.chg hC h.apart, Chg.trans h.C hC (fun k _ hx => .inr hx), h.lo, hX⟩
theorem CS.offs (h : CS w w1 base b cb L L1 s0 s1 f slot v u N) (hO : OffE w) (hg : 0 < base) (hcb : base ≤ cb) (hH : Dsk w base b L s0 N2) : OffE w1 :=
  hO.chg h.C (fun e => e.elim (fun e => by have := (hH.lt e).1; omega) (fun e => by omega))
theorem CS.mono (h : CS w w1 base b cb L L1 s0 s1 f slot v u N) (hN : N ≤ N2) : CS w w1 base b cb L L1 s0 s1 f slot v u N2 := ⟨h.H.mono hN, h.C, h.lo, h.X⟩
end
/-- How Set ends. -/
def CSRes (w : World) (base b cb : Nat) (L : DL) (s : DS) (f : Int) (slot : Nat) (v v' : Bs) (N : Nat) (e : Ending) (w' : World) : Prop :=
  ∃ (ec : Int) (L' : DL) (s' : DS) (slot2 : Nat) (v2 : Bs) (u2 : Bool), e = .returned (.int .i64 ec) ∧ CSet s s' f slot v v' ec ∧ CS w w' base b cb L L' s s' f slot2 v2 u2 N ∧ (ec = 0 → slot2 = nslot slot ∧ v2 = v')
theorem CSRes.bad {w w' : World} {base b cb : Nat} {L L' : DL} {s s' : DS} {f : Int} {slot slot2 : Nat} {v v' v2 : Bs} {u2 : Bool} {N N1 : Nat} {ec : Int} (hX : CS w w' base b cb L L' s s' f slot2 v2 u2 N1) (hN : N1 ≤ N) (he : ec = 9 ∨ ec = 10) (hE : CE s s' f slot v v') (hc : ¬ Calm s) : CSRes w base b cb L s f slot v v' N (.returned (.int .i64 ec)) w' :=
  ⟨ec, L', s', slot2, v2, u2, rfl, ⟨fun h => by omega, fun _ => ⟨he, hE⟩, fun h => absurd h hc⟩, hX.mono hN, fun h => by omega⟩
set_option maxRecDepth 100000 in
set_option maxHeartbeats 8000000 in
theorem cset_any (b base cb : Nat) (L : DL) (s : DS) (N : Nat) (f : Int) (slot : Nat) (v v' : Bs) (u : Bool) (w : World) (h : Dsk w base b L s N) (hX : Cel w cb b f slot v u) (hO : OffE w) (hg : 0 < base) (hcb : base ≤ cb) (hd : s.down = false) (hf : 0 ≤ f ∧ f < 16) (hfl : (s.fl f).2 = (s.fl f).1) (hs : CellSays (s.fl f).1 slot v) (hv' : v'.length ≤ 65536) (h0 : v' ≠ []) (hN : N + 2 * v'.length + 23 ≤ 50000000) (hbase : base ≤ w.heap.size) :
    Calls Tryd.prog 55 #[.pointer (some ⟨cb, 0, none⟩), .string (bs v')] w (CSRes w base b cb L s f slot v v' (N + 2 * v'.length + 23)) := by
  obtain ⟨c0, hc0⟩ : ∃ c0, (s.fl f).1 = c0 := ⟨_, rfl⟩
  rw [hc0] at hfl hs
  have S0 := hid (St.start hd hc0 hfl)
  have HS := hid hs
  have HOF := hid (fun (L1 : DL) (s1 : DS) (w1 : World) (sl : Nat) (vv : Bs) (uu : Bool) (N1 : Nat) (hC : CS w w1 base b cb L L1 s s1 f sl vv uu N1) => hC.offs hO hg hcb h)
  have K0 := hid (show CS w w base b cb L L s s f slot v u N from ⟨h, Chg.refl _ _, fun _ h => .inl h, hX⟩)
  have hsl : slot ≤ 2 := by rcases hs with ⟨e, _⟩ | ⟨e, _⟩ <;> omega
  have hvsz := bs_size v'
  have hvI : ¬ (65536 : Int) < (v'.length : Int) := by omega
  have H0 := hid h0
  clear h hX hO hd hfl hs hc0 h0
  go_enter Tryd.func55, Tryd.ntmps55
  go_upto_region 3 with fail
  go_cut [25] (fun tv wx => ∃ r : Bool, tv = .bool r ∧ (r = true → u = false ∧ 0 < slot) ∧ wx = w)
  case first =>
    have k2 := K0.out.X.cell 2; have k4 := K0.out.X.cell 4; have kl := K0.out.X.lt
    simp at k2 k4
    cases u with
    | true =>
      go_wp2_with fail
      go_meet
      exact ⟨false, rfl, by simp, rfl⟩
    | false =>
      go_wp2_with fail
      go_meet
      exact ⟨_, rfl, fun h => by simpa using h, rfl⟩
  case rest =>
  obtain ⟨r, rfl, hr, rfl⟩ := hcut
  generalize wc = w at *
  have HR := hid hr
  clear hr
  go_upto_if 25 with fail
  go_cut [] (fun wx => ∃ (L1 : DL) (s1 : DS) (u1 : Bool), CS w wx base b cb L L1 s s1 f slot v u1 (N + 1) ∧ St s s1 f (c0, c0) ∧ (Calm s → Calm s1))
  case first =>
    cases r with
    | false =>
      go_wp2_with fail
      go_meet
      exact ⟨L, s, u, K0.out.mono (by omega), S0.out, fun h => h⟩
    | true =>
      go_upto_region 4 with fail
      have KD := hid K0.out.drew
      have HSF := hid (fun (wq : World) (hq : wq = w.drew) => show wq.cell? ⟨cb, 0, none⟩ = some (.pointer (some ⟨b, 0, none⟩)) ∧ wq.cell? ⟨cb, 1, none⟩ = some (.int .i64 f) ∧ cb < wq.heap.size from by rw [hq]; exact ⟨KD.out.X.cell 0, KD.out.X.cell 1, KD.out.X.lt⟩)
      refine wpIn_wide.1 (wpIn_region_S (n := 0) (fun wq => wq = w.drew) [8] (by kernel_rfl) rfl (fun hHeld => ?_))
      have HCT := hid (sync_v b base L s N f w.drew KD.out.H hf (by omega) hbase)
      generalize w.drew = wd at *
      refine wpAnyS_pure 0 (v := ?_) (fun _ => trivial) (by simp only [List.getElem?_toArray, List.getElem?_cons_succ, List.getElem?_cons_zero]; rfl) (by kernel_rfl) (fun _ _ _ _ _ h => h) ⟨rfl, (by intro c h; cases h), ?_⟩ hHeld ?_
      rotate_left
      focus (intro wS hSw; (try replace hSw := HSF.out wS hSw); (try dsimp only at hSw); go_simp; (try with_reducible rfl))
      (try simp only [Act.put, List.setIfInBounds_toArray, List.set_cons_zero, List.set_cons_succ])
      refine wpAnyS_pure 1 (v := ?_) (fun _ => trivial) (by simp only [List.getElem?_toArray, List.getElem?_cons_succ, List.getElem?_cons_zero]; rfl) (by kernel_rfl) (fun _ _ _ _ _ h => h) ⟨rfl, (by intro c h; cases h), ?_⟩ hHeld ?_
      rotate_left
      focus (intro wS hSw; (try replace hSw := HSF.out wS hSw); (try dsimp only at hSw); go_simp; (try with_reducible rfl))
      (try simp only [Act.put, List.setIfInBounds_toArray, List.set_cons_zero, List.set_cons_succ])
      refine wpAnyS_pure 2 (v := ?_) (fun _ => trivial) (by simp only [List.getElem?_toArray, List.getElem?_cons_succ, List.getElem?_cons_zero]; rfl) (by kernel_rfl) (fun _ _ _ _ _ h => h) ⟨rfl, (by intro c h; cases h), ?_⟩ hHeld ?_
      rotate_left
      focus (intro wS hSw; (try replace hSw := HSF.out wS hSw); (try dsimp only at hSw); go_simp; (try with_reducible rfl))
      (try simp only [Act.put, List.setIfInBounds_toArray, List.set_cons_zero, List.set_cons_succ])
      refine wpAnyS_take 3 (v := ?_) (fun _ => trivial) (by simp only [List.getElem?_toArray, List.getElem?_cons_succ, List.getElem?_cons_zero]; rfl) (by kernel_rfl) (fun _ _ _ _ _ h => h) ⟨rfl, (by intro c h; cases h), ?_⟩ hHeld ?_
      rotate_left
      focus (intro wS hSw; (try replace hSw := HSF.out wS hSw); (try dsimp only at hSw); go_simp; (try with_reducible rfl))
      (try simp only [Act.put, List.setIfInBounds_toArray, List.set_cons_zero, List.set_cons_succ])
      refine wpAnyS_pure 4 (v := ?_) (fun _ => trivial) (by simp only [List.getElem?_toArray, List.getElem?_cons_succ, List.getElem?_cons_zero]; rfl) (by kernel_rfl) (fun _ _ _ _ _ h => h) ⟨rfl, (by intro c h; cases h), ?_⟩ hHeld ?_
      rotate_left
      focus (intro wS hSw; (try replace hSw := HSF.out wS hSw); (try dsimp only at hSw); go_simp; (try with_reducible rfl))
      (try simp only [Act.put, List.setIfInBounds_toArray, List.set_cons_zero, List.set_cons_succ])
      refine wpAnyS_pure 5 (v := ?_) (fun _ => trivial) (by simp only [List.getElem?_toArray, List.getElem?_cons_succ, List.getElem?_cons_zero]; rfl) (by kernel_rfl) (fun _ _ _ _ _ h => h) ⟨rfl, (by intro c h; cases h), ?_⟩ hHeld ?_
      rotate_left
      focus (intro wS hSw; (try replace hSw := HSF.out wS hSw); (try dsimp only at hSw); go_simp; (try with_reducible rfl))
      (try simp only [Act.put, List.setIfInBounds_toArray, List.set_cons_zero, List.set_cons_succ])
      refine wpAnyS_pure 6 (v := ?_) (fun _ => trivial) (by simp only [List.getElem?_toArray, List.getElem?_cons_succ, List.getElem?_cons_zero]; rfl) (by kernel_rfl) (fun _ _ _ _ _ h => h) ⟨rfl, (by intro c h; cases h), ?_⟩ hHeld ?_
      rotate_left
      focus (intro wS hSw; (try replace hSw := HSF.out wS hSw); (try dsimp only at hSw); go_simp; (try with_reducible rfl))
      (try simp only [Act.put, List.setIfInBounds_toArray, List.set_cons_zero, List.set_cons_succ])
      refine wpAnyS_take 7 (v := ?_) (fun _ => trivial) (by simp only [List.getElem?_toArray, List.getElem?_cons_succ, List.getElem?_cons_zero]; rfl) (by kernel_rfl) (fun _ _ _ _ _ h => h) ⟨rfl, (by intro c h; cases h), ?_⟩ hHeld ?_
      rotate_left
      focus (intro wS hSw; (try replace hSw := HSF.out wS hSw); (try dsimp only at hSw); go_simp; (try with_reducible rfl))
      (try simp only [Act.put, List.setIfInBounds_toArray, List.set_cons_zero, List.set_cons_succ])
      refine wpAnyS_ready [8] (by kernel_rfl) (by simp) (AllReadyS.consL (by simp only [List.getElem?_toArray, List.getElem?_cons_succ, List.getElem?_cons_zero]; rfl) rfl (by kernel_rfl) (fun K hK => ?_) AllReadyS.nil)
      refine callV (by intro c h; cases h) (by go_simp; try with_reducible rfl) HCT.out ?_
      intro vv w2 hR
      obtain ⟨ec, L2, s2, rfl, hP, K2⟩ := KD.out.call hR
      have HK2 := hid K2
      obtain ⟨p1, p2, p3, p4⟩ := S0.out.sync hP
      have P1 := hid p1; have P2 := hid p2; have P3 := hid p3; have P4 := hid p4
      refine hK.out _ _ ?_
      (try simp only [Act.put, List.setIfInBounds_toArray, List.set_cons_zero, List.set_cons_succ])
      clear hK K hHeld hR hP K2 p1 p2 p3 p4 HCT HSF
      refine wpAnyS_pureL 9 (v := ?_) (fun _ => trivial) (by simp only [List.getElem?_toArray, List.getElem?_cons_succ, List.getElem?_cons_zero]; rfl) (by kernel_rfl) (by kernel_rfl) (fun _ _ _ _ _ h => h) ⟨rfl, (by intro c h; cases h), ?_⟩ ?_
      rotate_left
      focus (intro wS hSw; (try replace hSw := HSF.out wS hSw); (try dsimp only at hSw); go_simp; (try with_reducible rfl))
      (try simp only [Act.put, List.setIfInBounds_toArray, List.set_cons_zero, List.set_cons_succ])
      refine wpAnyS_done (by kernel_rfl) ?_
      by_cases he : ec = 0
      · subst he
        have x4 := HK2.out.X.cell 4; have xl := HK2.out.X.lt; have xf := HK2.out.X.frozen 4
        simp at x4
        have HX2 := hid (show Blk (w2.setCell ⟨cb, 4, none⟩ (.bool true)) cb 86 #[.pointer (some ⟨b, 0, none⟩), .int .i64 f, .int .i64 (slot : Int), .string (bs v), .bool true] by simpa using HK2.out.X.set_ 4 (.bool true))
        have HGO := hid (gr_set w2 cb 4 (.bool true))
        go_wp2_with fail
        go_meet
        exact ⟨L2, s2, true, HK2.out.own HGO.out HX2.out, P1.out (by first | rfl | trivial), fun h => (P4.out h).2⟩
      · have he2 : ec ≠ 0 := he
        go_wp2_with fail
        go_ret
        exact CSRes.bad HK2.out (by omega) (P3.out.resolve_left he) ((ce_start S0.out HS.out).shr P2.out) (fun h => he (P4.out h).1)
  case rest =>
  obtain ⟨L1, s1, u1, hK1, hS1, hC1⟩ := hcut
  generalize wc = w1 at *
  have K1 := hid hK1
  have S1 := hid hS1
  have C1 := hid hC1
  have B1s := hid (hK1.size hbase)
  clear hK1 hS1 hC1 HR
  have k2 := K1.out.X.cell 2; have kl := K1.out.X.lt
  simp at k2
  go_upto_if 45 with fail
  go_cut [6] (fun tv wx => tv = .int .i64 (nslot slot : Nat) ∧ wx = w1)
  case first =>
    by_cases h1 : slot = 1
    · have h1I : (slot : Int) = 1 := by omega
      have h1b : ((slot : Int) == 1) = true := by simp [h1I]
      have HNS := hid (show nslot slot = 2 by unfold nslot; exact if_pos h1)
      clear h1
      go_wp2_with fail
      go_meet
      exact ⟨by rw [HNS.out]; rfl, rfl⟩
    · have h1I : ¬ (slot : Int) = 1 := by omega
      have h1b : ((slot : Int) == 1) = false := by simp; omega
      have HNS := hid (show nslot slot = 1 by unfold nslot; exact if_neg h1)
      clear h1
      go_wp2_with fail
      go_meet
      exact ⟨by rw [HNS.out]; rfl, rfl⟩
  case rest =>
  obtain ⟨rfl, rfl⟩ := hcut
  generalize wc = w1 at *
  clear k2 kl
  obtain ⟨n, hn⟩ : ∃ n, n = nslot slot := ⟨_, rfl⟩
  rw [← hn]
  have HN := hid hn
  have hn12 : n = 1 ∨ n = 2 := by rw [hn]; exact nslot_or slot
  clear hn
  have hn2 : n ≤ 2 := by omega
  have hn3 : (n : Int) < 3 := by omega
  -- the value is written
  go_upto_region 11 with fail
  have K1d := hid K1.out.drew
  have hoff := (HOF.out _ _ _ _ _ _ _ K1d.out).at_ hn12
  have HSF := hid (fun (wq : World) (hq : wq = w1.drew) => show wq.cell? ⟨cb, 0, none⟩ = some (.pointer (some ⟨b, 0, none⟩)) ∧ wq.cell? ⟨cb, 1, none⟩ = some (.int .i64 f) ∧ wq.cell? ⟨0, n, none⟩ = some (.int .i64 (offs n : Int)) ∧ cb < wq.heap.size from by rw [hq]; exact ⟨K1d.out.X.cell 0, K1d.out.X.cell 1, hoff, K1d.out.X.lt⟩)
  clear hoff
  have hof : offs n + v'.length ≤ 16777216 := by have : offs n ≤ 131072 := by unfold offs; split <;> omega
                                                 omega
  refine wpIn_wide.1 (wpIn_region_S (n := 0) (fun wq => wq = w1.drew) [12] (by kernel_rfl) rfl (fun hHeld => ?_))
  have HCT := hid (write_v b base L1 s1 (N + 1) f (offs n) v' w1.drew K1d.out.H hf hof (by omega) B1s.out)
  generalize w1.drew = wd at *
  refine wpAnyS_pure 0 (v := ?_) (fun _ => trivial) (by simp only [List.getElem?_toArray, List.getElem?_cons_succ, List.getElem?_cons_zero]; rfl) (by kernel_rfl) (fun _ _ _ _ _ h => h) ⟨rfl, (by intro c h; cases h), ?_⟩ hHeld ?_
  rotate_left
  focus (intro wS hSw; (try replace hSw := HSF.out wS hSw); (try dsimp only at hSw); go_simp; (try with_reducible rfl))
  (try simp only [Act.put, List.setIfInBounds_toArray, List.set_cons_zero, List.set_cons_succ])
  refine wpAnyS_pure 1 (v := ?_) (fun _ => trivial) (by simp only [List.getElem?_toArray, List.getElem?_cons_succ, List.getElem?_cons_zero]; rfl) (by kernel_rfl) (fun _ _ _ _ _ h => h) ⟨rfl, (by intro c h; cases h), ?_⟩ hHeld ?_
  rotate_left
  focus (intro wS hSw; (try replace hSw := HSF.out wS hSw); (try dsimp only at hSw); go_simp; (try with_reducible rfl))
  (try simp only [Act.put, List.setIfInBounds_toArray, List.set_cons_zero, List.set_cons_succ])
  refine wpAnyS_pure 2 (v := ?_) (fun _ => trivial) (by simp only [List.getElem?_toArray, List.getElem?_cons_succ, List.getElem?_cons_zero]; rfl) (by kernel_rfl) (fun _ _ _ _ _ h => h) ⟨rfl, (by intro c h; cases h), ?_⟩ hHeld ?_
  rotate_left
  focus (intro wS hSw; (try replace hSw := HSF.out wS hSw); (try dsimp only at hSw); go_simp; (try with_reducible rfl))
  (try simp only [Act.put, List.setIfInBounds_toArray, List.set_cons_zero, List.set_cons_succ])
  refine wpAnyS_take 3 (v := ?_) (fun _ => trivial) (by simp only [List.getElem?_toArray, List.getElem?_cons_succ, List.getElem?_cons_zero]; rfl) (by kernel_rfl) (fun _ _ _ _ _ h => h) ⟨rfl, (by intro c h; cases h), ?_⟩ hHeld ?_
  rotate_left
  focus (intro wS hSw; (try replace hSw := HSF.out wS hSw); (try dsimp only at hSw); go_simp; (try with_reducible rfl))
  (try simp only [Act.put, List.setIfInBounds_toArray, List.set_cons_zero, List.set_cons_succ])
  refine wpAnyS_pure 4 (v := ?_) (fun _ => trivial) (by simp only [List.getElem?_toArray, List.getElem?_cons_succ, List.getElem?_cons_zero]; rfl) (by kernel_rfl) (fun _ _ _ _ _ h => h) ⟨rfl, (by intro c h; cases h), ?_⟩ hHeld ?_
  rotate_left
  focus (intro wS hSw; (try replace hSw := HSF.out wS hSw); (try dsimp only at hSw); go_simp; (try with_reducible rfl))
  (try simp only [Act.put, List.setIfInBounds_toArray, List.set_cons_zero, List.set_cons_succ])
  refine wpAnyS_pure 5 (v := ?_) (fun _ => trivial) (by simp only [List.getElem?_toArray, List.getElem?_cons_succ, List.getElem?_cons_zero]; rfl) (by kernel_rfl) (fun _ _ _ _ _ h => h) ⟨rfl, (by intro c h; cases h), ?_⟩ hHeld ?_
  rotate_left
  focus (intro wS hSw; (try replace hSw := HSF.out wS hSw); (try dsimp only at hSw); go_simp; (try with_reducible rfl))
  (try simp only [Act.put, List.setIfInBounds_toArray, List.set_cons_zero, List.set_cons_succ])
  refine wpAnyS_pure 6 (v := ?_) (fun _ => trivial) (by simp only [List.getElem?_toArray, List.getElem?_cons_succ, List.getElem?_cons_zero]; rfl) (by kernel_rfl) (fun _ _ _ _ _ h => h) ⟨rfl, (by intro c h; cases h), ?_⟩ hHeld ?_
  rotate_left
  focus (intro wS hSw; (try replace hSw := HSF.out wS hSw); (try dsimp only at hSw); go_simp; (try with_reducible rfl))
  (try simp only [Act.put, List.setIfInBounds_toArray, List.set_cons_zero, List.set_cons_succ])
  refine wpAnyS_take 7 (v := ?_) (fun _ => trivial) (by simp only [List.getElem?_toArray, List.getElem?_cons_succ, List.getElem?_cons_zero]; rfl) (by kernel_rfl) (fun _ _ _ _ _ h => h) ⟨rfl, (by intro c h; cases h), ?_⟩ hHeld ?_
  rotate_left
  focus (intro wS hSw; (try replace hSw := HSF.out wS hSw); (try dsimp only at hSw); go_simp; (try with_reducible rfl))
  (try simp only [Act.put, List.setIfInBounds_toArray, List.set_cons_zero, List.set_cons_succ])
  refine wpAnyS_pure 8 (v := ?_) (fun _ => trivial) (by simp only [List.getElem?_toArray, List.getElem?_cons_succ, List.getElem?_cons_zero]; rfl) (by kernel_rfl) (fun _ _ _ _ _ h => h) ⟨rfl, (by intro c h; cases h), ?_⟩ hHeld ?_
  rotate_left
  focus (intro wS hSw; (try replace hSw := HSF.out wS hSw); (try dsimp only at hSw); go_simp; (try with_reducible rfl))
  (try simp only [Act.put, List.setIfInBounds_toArray, List.set_cons_zero, List.set_cons_succ])
  refine wpAnyS_take 9 (v := ?_) (fun _ => trivial) (by simp only [List.getElem?_toArray, List.getElem?_cons_succ, List.getElem?_cons_zero]; rfl) (by kernel_rfl) (fun _ _ _ _ _ h => h) ⟨rfl, (by intro c h; cases h), ?_⟩ hHeld ?_
  rotate_left
  focus (intro wS hSw; (try replace hSw := HSF.out wS hSw); (try dsimp only at hSw); go_simp; (try with_reducible rfl))
  (try simp only [Act.put, List.setIfInBounds_toArray, List.set_cons_zero, List.set_cons_succ])
  refine wpAnyS_take 10 (v := ?_) (fun _ => trivial) (by simp only [List.getElem?_toArray, List.getElem?_cons_succ, List.getElem?_cons_zero]; rfl) (by kernel_rfl) (fun _ _ _ _ _ h => h) ⟨rfl, (by intro c h; cases h), ?_⟩ hHeld ?_
  rotate_left
  focus (intro wS hSw; (try replace hSw := HSF.out wS hSw); (try dsimp only at hSw); go_simp; (try with_reducible rfl))
  (try simp only [Act.put, List.setIfInBounds_toArray, List.set_cons_zero, List.set_cons_succ])
  refine wpAnyS_pure 11 (v := ?_) (fun _ => trivial) (by simp only [List.getElem?_toArray, List.getElem?_cons_succ, List.getElem?_cons_zero]; rfl) (by kernel_rfl) (fun _ _ _ _ _ h => h) ⟨rfl, (by intro c h; cases h), ?_⟩ hHeld ?_
  rotate_left
  focus (intro wS hSw; (try replace hSw := HSF.out wS hSw); (try dsimp only at hSw); go_simp; (try with_reducible rfl))
  (try simp only [Act.put, List.setIfInBounds_toArray, List.set_cons_zero, List.set_cons_succ])
  refine wpAnyS_ready [12] (by kernel_rfl) (by simp) (AllReadyS.consL (by simp only [List.getElem?_toArray, List.getElem?_cons_succ, List.getElem?_cons_zero]; rfl) rfl (by kernel_rfl) (fun K hK => ?_) AllReadyS.nil)
  refine callV (by intro c h; cases h) (by go_simp; try with_reducible rfl) HCT.out ?_
  intro vv w2 hR
  obtain ⟨ec, L2, s2, rfl, hP, hK2⟩ := K1d.out.call hR
  have K2 := hid hK2
  obtain ⟨p1, p2, p3, p4⟩ := S1.out.write hP
  have P1 := hid p1; have P2 := hid p2; have P3 := hid p3; have P4 := hid p4
  refine hK.out _ _ ?_
  (try simp only [Act.put, List.setIfInBounds_toArray, List.set_cons_zero, List.set_cons_succ])
  clear hK K hHeld hR hP hK2 p1 p2 p3 p4 HCT HSF
  refine wpAnyS_pureL 13 (v := ?_) (fun _ => trivial) (by simp only [List.getElem?_toArray, List.getElem?_cons_succ, List.getElem?_cons_zero]; rfl) (by kernel_rfl) (by kernel_rfl) (fun _ _ _ _ _ h => h) ⟨rfl, (by intro c h; cases h), ?_⟩ ?_
  rotate_left
  focus (intro wS hSw; (try replace hSw := HSF.out wS hSw); (try dsimp only at hSw); go_simp; (try with_reducible rfl))
  (try simp only [Act.put, List.setIfInBounds_toArray, List.set_cons_zero, List.set_cons_succ])
  refine wpAnyS_done (by kernel_rfl) ?_
  by_cases he : ec = 0
  case neg =>
    have he2 : ec ≠ 0 := he
    go_wp2_with fail
    go_ret
    obtain ⟨sm, hsm, hsh⟩ := P4.out
    rw [HN.out] at hsm
    exact CSRes.bad K2.out (by omega) (.inl (P2.out.resolve_left he)) ((ce_value hsm HS.out hv').shr hsh) (fun h => he (P3.out (C1.out h)).1)
  subst he
  have S2 := hid (P1.out (by first | rfl | trivial))
  have C2 := hid (fun h => (P3.out (C1.out h)).2)
  clear P1 P2 P3 P4 K1 K1d S1 C1
  -- and made durable
  go_upto_region 14 with fail
  have K2d := hid K2.out.drew
  have HSF := hid (fun (wq : World) (hq : wq = w2.drew) => show wq.cell? ⟨cb, 0, none⟩ = some (.pointer (some ⟨b, 0, none⟩)) ∧ wq.cell? ⟨cb, 1, none⟩ = some (.int .i64 f) ∧ cb < wq.heap.size from by rw [hq]; exact ⟨K2d.out.X.cell 0, K2d.out.X.cell 1, K2d.out.X.lt⟩)
  refine wpIn_wide.1 (wpIn_region_S (n := 0) (fun wq => wq = w2.drew) [8] (by kernel_rfl) rfl (fun hHeld => ?_))
  have HCT := hid (sync_v b base L2 s2 (N + 1 + 2 * v'.length + 5) f w2.drew K2d.out.H hf (by omega) (K2d.out.size hbase))
  generalize w2.drew = wd at *
  refine wpAnyS_pure 0 (v := ?_) (fun _ => trivial) (by simp only [List.getElem?_toArray, List.getElem?_cons_succ, List.getElem?_cons_zero]; rfl) (by kernel_rfl) (fun _ _ _ _ _ h => h) ⟨rfl, (by intro c h; cases h), ?_⟩ hHeld ?_
  rotate_left
  focus (intro wS hSw; (try replace hSw := HSF.out wS hSw); (try dsimp only at hSw); go_simp; (try with_reducible rfl))
  (try simp only [Act.put, List.setIfInBounds_toArray, List.set_cons_zero, List.set_cons_succ])
  refine wpAnyS_pure 1 (v := ?_) (fun _ => trivial) (by simp only [List.getElem?_toArray, List.getElem?_cons_succ, List.getElem?_cons_zero]; rfl) (by kernel_rfl) (fun _ _ _ _ _ h => h) ⟨rfl, (by intro c h; cases h), ?_⟩ hHeld ?_
  rotate_left
  focus (intro wS hSw; (try replace hSw := HSF.out wS hSw); (try dsimp only at hSw); go_simp; (try with_reducible rfl))
  (try simp only [Act.put, List.setIfInBounds_toArray, List.set_cons_zero, List.set_cons_succ])
  refine wpAnyS_pure 2 (v := ?_) (fun _ => trivial) (by simp only [List.getElem?_toArray, List.getElem?_cons_succ, List.getElem?_cons_zero]; rfl) (by kernel_rfl) (fun _ _ _ _ _ h => h) ⟨rfl, (by intro c h; cases h), ?_⟩ hHeld ?_
  rotate_left
  focus (intro wS hSw; (try replace hSw := HSF.out wS hSw); (try dsimp only at hSw); go_simp; (try with_reducible rfl))
  (try simp only [Act.put, List.setIfInBounds_toArray, List.set_cons_zero, List.set_cons_succ])
  refine wpAnyS_take 3 (v := ?_) (fun _ => trivial) (by simp only [List.getElem?_toArray, List.getElem?_cons_succ, List.getElem?_cons_zero]; rfl) (by kernel_rfl) (fun _ _ _ _ _ h => h) ⟨rfl, (by intro c h; cases h), ?_⟩ hHeld ?_
  rotate_left
  focus (intro wS hSw; (try replace hSw := HSF.out wS hSw); (try dsimp only at hSw); go_simp; (try with_reducible rfl))
  (try simp only [Act.put, List.setIfInBounds_toArray, List.set_cons_zero, List.set_cons_succ])
  refine wpAnyS_pure 4 (v := ?_) (fun _ => trivial) (by simp only [List.getElem?_toArray, List.getElem?_cons_succ, List.getElem?_cons_zero]; rfl) (by kernel_rfl) (fun _ _ _ _ _ h => h) ⟨rfl, (by intro c h; cases h), ?_⟩ hHeld ?_
  rotate_left
  focus (intro wS hSw; (try replace hSw := HSF.out wS hSw); (try dsimp only at hSw); go_simp; (try with_reducible rfl))
  (try simp only [Act.put, List.setIfInBounds_toArray, List.set_cons_zero, List.set_cons_succ])
  refine wpAnyS_pure 5 (v := ?_) (fun _ => trivial) (by simp only [List.getElem?_toArray, List.getElem?_cons_succ, List.getElem?_cons_zero]; rfl) (by kernel_rfl) (fun _ _ _ _ _ h => h) ⟨rfl, (by intro c h; cases h), ?_⟩ hHeld ?_
  rotate_left
  focus (intro wS hSw; (try replace hSw := HSF.out wS hSw); (try dsimp only at hSw); go_simp; (try with_reducible rfl))
  (try simp only [Act.put, List.setIfInBounds_toArray, List.set_cons_zero, List.set_cons_succ])
  refine wpAnyS_pure 6 (v := ?_) (fun _ => trivial) (by simp only [List.getElem?_toArray, List.getElem?_cons_succ, List.getElem?_cons_zero]; rfl) (by kernel_rfl) (fun _ _ _ _ _ h => h) ⟨rfl, (by intro c h; cases h), ?_⟩ hHeld ?_
  rotate_left
  focus (intro wS hSw; (try replace hSw := HSF.out wS hSw); (try dsimp only at hSw); go_simp; (try with_reducible rfl))
  (try simp only [Act.put, List.setIfInBounds_toArray, List.set_cons_zero, List.set_cons_succ])
  refine wpAnyS_take 7 (v := ?_) (fun _ => trivial) (by simp only [List.getElem?_toArray, List.getElem?_cons_succ, List.getElem?_cons_zero]; rfl) (by kernel_rfl) (fun _ _ _ _ _ h => h) ⟨rfl, (by intro c h; cases h), ?_⟩ hHeld ?_
  rotate_left
  focus (intro wS hSw; (try replace hSw := HSF.out wS hSw); (try dsimp only at hSw); go_simp; (try with_reducible rfl))
  (try simp only [Act.put, List.setIfInBounds_toArray, List.set_cons_zero, List.set_cons_succ])
  refine wpAnyS_ready [8] (by kernel_rfl) (by simp) (AllReadyS.consL (by simp only [List.getElem?_toArray, List.getElem?_cons_succ, List.getElem?_cons_zero]; rfl) rfl (by kernel_rfl) (fun K hK => ?_) AllReadyS.nil)
  refine callV (by intro c h; cases h) (by go_simp; try with_reducible rfl) HCT.out ?_
  intro vv w3 hR
  obtain ⟨ec, L3, s3, rfl, hP, hK3⟩ := K2d.out.call hR
  have K3 := hid hK3
  obtain ⟨p1, p2, p3, p4⟩ := S2.out.sync hP
  have P1 := hid p1; have P2 := hid p2; have P3 := hid p3; have P4 := hid p4
  refine hK.out _ _ ?_
  (try simp only [Act.put, List.setIfInBounds_toArray, List.set_cons_zero, List.set_cons_succ])
  clear hK K hHeld hR hP hK3 p1 p2 p3 p4 HCT HSF
  refine wpAnyS_pureL 9 (v := ?_) (fun _ => trivial) (by simp only [List.getElem?_toArray, List.getElem?_cons_succ, List.getElem?_cons_zero]; rfl) (by kernel_rfl) (by kernel_rfl) (fun _ _ _ _ _ h => h) ⟨rfl, (by intro c h; cases h), ?_⟩ ?_
  rotate_left
  focus (intro wS hSw; (try replace hSw := HSF.out wS hSw); (try dsimp only at hSw); go_simp; (try with_reducible rfl))
  (try simp only [Act.put, List.setIfInBounds_toArray, List.set_cons_zero, List.set_cons_succ])
  refine wpAnyS_done (by kernel_rfl) ?_
  by_cases he : ec = 0
  case neg =>
    have he2 : ec ≠ 0 := he
    go_wp2_with fail
    go_ret
    have hsm := S2.out.2
    rw [HN.out] at hsm
    exact CSRes.bad K3.out (by omega) (P3.out.resolve_left he) ((ce_value hsm HS.out hv').shr P2.out) (fun h => he (P4.out (C2.out h)).1)
  subst he
  have S3 := hid (P1.out (by first | rfl | trivial))
  have C3 := hid (fun h => (P4.out (C2.out h)).2)
  clear P1 P2 P3 P4 K2 K2d S2 C2
  -- the header
  go_upto_region 17 with fail
  have K3d := hid K3.out.drew
  have HSF := hid (fun (wq : World) (hq : Below w3.heap.size w3 wq) => show wq.cell? ⟨cb, 0, none⟩ = some (.pointer (some ⟨b, 0, none⟩)) ∧ wq.cell? ⟨cb, 1, none⟩ = some (.int .i64 f) ∧ cb < wq.heap.size from by have K := K3.out.below hq; exact ⟨K.X.cell 0, K.X.cell 1, K.X.lt⟩)
  have BD := hid ((Below.refl w3.heap.size w3).drew)
  refine wpIn_wide.1 (wpIn_region_S (n := 0) (fun wq => Below w3.heap.size w3 wq) [11] (by kernel_rfl) BD.out (fun hHeld => ?_))
  have HHD := hid (header_any n v' w3.drew hn2 hv')
  generalize w3.drew = wd at *
  refine wpAnyS_pure 0 (v := ?_) (fun _ => trivial) (by simp only [List.getElem?_toArray, List.getElem?_cons_succ, List.getElem?_cons_zero]; rfl) (by kernel_rfl) (fun _ _ _ _ _ h => h) ⟨rfl, (by intro c h; cases h), ?_⟩ hHeld ?_
  rotate_left
  focus (intro wS hSw; (try replace hSw := HSF.out wS hSw); (try dsimp only at hSw); go_simp; (try with_reducible rfl))
  (try simp only [Act.put, List.setIfInBounds_toArray, List.set_cons_zero, List.set_cons_succ])
  refine wpAnyS_pure 1 (v := ?_) (fun _ => trivial) (by simp only [List.getElem?_toArray, List.getElem?_cons_succ, List.getElem?_cons_zero]; rfl) (by kernel_rfl) (fun _ _ _ _ _ h => h) ⟨rfl, (by intro c h; cases h), ?_⟩ hHeld ?_
  rotate_left
  focus (intro wS hSw; (try replace hSw := HSF.out wS hSw); (try dsimp only at hSw); go_simp; (try with_reducible rfl))
  (try simp only [Act.put, List.setIfInBounds_toArray, List.set_cons_zero, List.set_cons_succ])
  refine wpAnyS_pure 2 (v := ?_) (fun _ => trivial) (by simp only [List.getElem?_toArray, List.getElem?_cons_succ, List.getElem?_cons_zero]; rfl) (by kernel_rfl) (fun _ _ _ _ _ h => h) ⟨rfl, (by intro c h; cases h), ?_⟩ hHeld ?_
  rotate_left
  focus (intro wS hSw; (try replace hSw := HSF.out wS hSw); (try dsimp only at hSw); go_simp; (try with_reducible rfl))
  (try simp only [Act.put, List.setIfInBounds_toArray, List.set_cons_zero, List.set_cons_succ])
  refine wpAnyS_take 3 (v := ?_) (fun _ => trivial) (by simp only [List.getElem?_toArray, List.getElem?_cons_succ, List.getElem?_cons_zero]; rfl) (by kernel_rfl) (fun _ _ _ _ _ h => h) ⟨rfl, (by intro c h; cases h), ?_⟩ hHeld ?_
  rotate_left
  focus (intro wS hSw; (try replace hSw := HSF.out wS hSw); (try dsimp only at hSw); go_simp; (try with_reducible rfl))
  (try simp only [Act.put, List.setIfInBounds_toArray, List.set_cons_zero, List.set_cons_succ])
  refine wpAnyS_pure 4 (v := ?_) (fun _ => trivial) (by simp only [List.getElem?_toArray, List.getElem?_cons_succ, List.getElem?_cons_zero]; rfl) (by kernel_rfl) (fun _ _ _ _ _ h => h) ⟨rfl, (by intro c h; cases h), ?_⟩ hHeld ?_
  rotate_left
  focus (intro wS hSw; (try replace hSw := HSF.out wS hSw); (try dsimp only at hSw); go_simp; (try with_reducible rfl))
  (try simp only [Act.put, List.setIfInBounds_toArray, List.set_cons_zero, List.set_cons_succ])
  refine wpAnyS_pure 5 (v := ?_) (fun _ => trivial) (by simp only [List.getElem?_toArray, List.getElem?_cons_succ, List.getElem?_cons_zero]; rfl) (by kernel_rfl) (fun _ _ _ _ _ h => h) ⟨rfl, (by intro c h; cases h), ?_⟩ hHeld ?_
  rotate_left
  focus (intro wS hSw; (try replace hSw := HSF.out wS hSw); (try dsimp only at hSw); go_simp; (try with_reducible rfl))
  (try simp only [Act.put, List.setIfInBounds_toArray, List.set_cons_zero, List.set_cons_succ])
  refine wpAnyS_pure 6 (v := ?_) (fun _ => trivial) (by simp only [List.getElem?_toArray, List.getElem?_cons_succ, List.getElem?_cons_zero]; rfl) (by kernel_rfl) (fun _ _ _ _ _ h => h) ⟨rfl, (by intro c h; cases h), ?_⟩ hHeld ?_
  rotate_left
  focus (intro wS hSw; (try replace hSw := HSF.out wS hSw); (try dsimp only at hSw); go_simp; (try with_reducible rfl))
  (try simp only [Act.put, List.setIfInBounds_toArray, List.set_cons_zero, List.set_cons_succ])
  refine wpAnyS_take 7 (v := ?_) (fun _ => trivial) (by simp only [List.getElem?_toArray, List.getElem?_cons_succ, List.getElem?_cons_zero]; rfl) (by kernel_rfl) (fun _ _ _ _ _ h => h) ⟨rfl, (by intro c h; cases h), ?_⟩ hHeld ?_
  rotate_left
  focus (intro wS hSw; (try replace hSw := HSF.out wS hSw); (try dsimp only at hSw); go_simp; (try with_reducible rfl))
  (try simp only [Act.put, List.setIfInBounds_toArray, List.set_cons_zero, List.set_cons_succ])
  refine wpAnyS_pure 8 (v := ?_) (fun _ => trivial) (by simp only [List.getElem?_toArray, List.getElem?_cons_succ, List.getElem?_cons_zero]; rfl) (by kernel_rfl) (fun _ _ _ _ _ h => h) ⟨rfl, (by intro c h; cases h), ?_⟩ hHeld ?_
  rotate_left
  focus (intro wS hSw; (try replace hSw := HSF.out wS hSw); (try dsimp only at hSw); go_simp; (try with_reducible rfl))
  (try simp only [Act.put, List.setIfInBounds_toArray, List.set_cons_zero, List.set_cons_succ])
  refine wpAnyS_pure 9 (v := ?_) (fun _ => trivial) (by simp only [List.getElem?_toArray, List.getElem?_cons_succ, List.getElem?_cons_zero]; rfl) (by kernel_rfl) (fun _ _ _ _ _ h => h) ⟨rfl, (by intro c h; cases h), ?_⟩ hHeld ?_
  rotate_left
  focus (intro wS hSw; (try replace hSw := HSF.out wS hSw); (try dsimp only at hSw); go_simp; (try with_reducible rfl))
  (try simp only [Act.put, List.setIfInBounds_toArray, List.set_cons_zero, List.set_cons_succ])
  refine wpAnyS_ready [10] (by kernel_rfl) (by simp) (AllReadyS.cons (by simp only [List.getElem?_toArray, List.getElem?_cons_succ, List.getElem?_cons_zero]; rfl) rfl (fun K hK => ?_) AllReadyS.nil)
  refine callS (by intro c h; cases h) (by go_simp; try with_reducible rfl) HHD.out ?_
  intro w4 hB4
  have B4 := hid (BD.out.trans (hB4.mono BD.out.size))
  have K4 := hid (K3.out.below B4.out)
  refine hK.out _ _ B4.out ?_
  (try simp only [Act.put, List.setIfInBounds_toArray, List.set_cons_zero, List.set_cons_succ])
  clear hK K hHeld hB4 HHD
  have hHeld := B4.out
  have HCT := hid (show Calls Tryd.prog 10 #[.pointer (some ⟨b, 0, none⟩), .int .i64 f, .int .i64 0, .string (bs (hdr n v'.length))] w4 fun e w' => ∃ v, e = .returned v ∧ DV w4 base b L3 (N + 1 + 2 * v'.length + 5 + 1 + 15) (WrR s3 f 0 (hdr n v'.length)) v w' from write_v b base L3 s3 (N + 1 + 2 * v'.length + 5 + 1) f 0 (hdr n v'.length) w4 K4.out.H hf (by rw [hdr_len]; omega) (by rw [hdr_len]; omega) (K4.out.size hbase))
  refine wpAnyS_ready [11] (by kernel_rfl) (by simp) (AllReadyS.consL (by simp only [List.getElem?_toArray, List.getElem?_cons_succ, List.getElem?_cons_zero]; rfl) rfl (by kernel_rfl) (fun K hK => ?_) AllReadyS.nil)
  refine callV (by intro c h; cases h) (by go_simp; try with_reducible rfl) HCT.out ?_
  intro vv w5 hR
  obtain ⟨ec, L5, s5, rfl, hP, hK5⟩ := K4.out.call hR
  have K5 := hid hK5
  obtain ⟨p1, p2, p3, p4⟩ := S3.out.write hP
  have P1 := hid p1; have P2 := hid p2; have P3 := hid p3; have P4 := hid p4
  refine hK.out _ _ ?_
  (try simp only [Act.put, List.setIfInBounds_toArray, List.set_cons_zero, List.set_cons_succ])
  clear hK K hHeld hR hP hK5 p1 p2 p3 p4 HCT HSF
  refine wpAnyS_pureL 12 (v := ?_) (fun _ => trivial) (by simp only [List.getElem?_toArray, List.getElem?_cons_succ, List.getElem?_cons_zero]; rfl) (by kernel_rfl) (by kernel_rfl) (fun _ _ _ _ _ h => h) ⟨rfl, (by intro c h; cases h), ?_⟩ ?_
  rotate_left
  focus (intro wS hSw; (try replace hSw := HSF.out wS hSw); (try dsimp only at hSw); go_simp; (try with_reducible rfl))
  (try simp only [Act.put, List.setIfInBounds_toArray, List.set_cons_zero, List.set_cons_succ])
  refine wpAnyS_done (by kernel_rfl) ?_
  by_cases he : ec = 0
  case neg =>
    have he2 : ec ≠ 0 := he
    go_wp2_with fail
    go_ret
    obtain ⟨sm, hsm, hsh⟩ := P4.out
    rw [HN.out] at hsm
    exact CSRes.bad K5.out (by omega) (.inl (P2.out.resolve_left he)) ((ce_header hsm HS.out hv' H0.out).shr hsh) (fun h => he (P3.out (C3.out h)).1)
  subst he
  have S5 := hid (P1.out (by first | rfl | trivial))
  have C5 := hid (fun h => (P3.out (C3.out h)).2)
  clear P1 P2 P3 P4 K3 K3d K4 S3 C3
  -- the cell's words
  go_upto_region 20 with fail
  have x2 := K5.out.X.cell 2; have x3 := K5.out.X.cell 3; have x4 := K5.out.X.cell 4; have xl := K5.out.X.lt; have xf := K5.out.X.frozen
  simp at x2 x3 x4
  have X6 := hid (show Blk (((w5.setCell ⟨cb, 2, none⟩ (.int .i64 (n : Int))).setCell ⟨cb, 3, none⟩ (.string (bs v'))).setCell ⟨cb, 4, none⟩ (.bool false)) cb 86 #[.pointer (some ⟨b, 0, none⟩), .int .i64 f, .int .i64 (n : Int), .string (bs v'), .bool false] by simpa using ((K5.out.X.set_ 2 (.int .i64 (n : Int))).set_ 3 (.string (bs v'))).set_ 4 (.bool false))
  have K6 := hid (K5.out.own (gr_tr (gr_tr (gr_set w5 cb 2 (.int .i64 (n : Int))) (gr_set _ cb 3 (.string (bs v')))) (gr_set _ cb 4 (.bool false))) X6.out)
  go_upto_region 21 with fail
  clear x2 x3 x4 xl xf X6
  generalize (((w5.setCell ⟨cb, 2, none⟩ (.int .i64 (n : Int))).setCell ⟨cb, 3, none⟩ (.string (bs v'))).setCell ⟨cb, 4, none⟩ (.bool false)) = w6 at *
  have K6d := hid K6.out.drew
  have HSF := hid (fun (wq : World) (hq : wq = w6.drew) => show wq.cell? ⟨cb, 0, none⟩ = some (.pointer (some ⟨b, 0, none⟩)) ∧ wq.cell? ⟨cb, 1, none⟩ = some (.int .i64 f) ∧ cb < wq.heap.size from by rw [hq]; exact ⟨K6d.out.X.cell 0, K6d.out.X.cell 1, K6d.out.X.lt⟩)
  refine wpIn_wide.1 (wpIn_region_S (n := 0) (fun wq => wq = w6.drew) [8] (by kernel_rfl) rfl (fun hHeld => ?_))
  have HCT := hid (sync_v b base L5 s5 (N + 1 + 2 * v'.length + 5 + 1 + 15) f w6.drew K6d.out.H hf (by omega) (K6d.out.size hbase))
  generalize w6.drew = wd at *
  refine wpAnyS_pure 0 (v := ?_) (fun _ => trivial) (by simp only [List.getElem?_toArray, List.getElem?_cons_succ, List.getElem?_cons_zero]; rfl) (by kernel_rfl) (fun _ _ _ _ _ h => h) ⟨rfl, (by intro c h; cases h), ?_⟩ hHeld ?_
  rotate_left
  focus (intro wS hSw; (try replace hSw := HSF.out wS hSw); (try dsimp only at hSw); go_simp; (try with_reducible rfl))
  (try simp only [Act.put, List.setIfInBounds_toArray, List.set_cons_zero, List.set_cons_succ])
  refine wpAnyS_pure 1 (v := ?_) (fun _ => trivial) (by simp only [List.getElem?_toArray, List.getElem?_cons_succ, List.getElem?_cons_zero]; rfl) (by kernel_rfl) (fun _ _ _ _ _ h => h) ⟨rfl, (by intro c h; cases h), ?_⟩ hHeld ?_
  rotate_left
  focus (intro wS hSw; (try replace hSw := HSF.out wS hSw); (try dsimp only at hSw); go_simp; (try with_reducible rfl))
  (try simp only [Act.put, List.setIfInBounds_toArray, List.set_cons_zero, List.set_cons_succ])
  refine wpAnyS_pure 2 (v := ?_) (fun _ => trivial) (by simp only [List.getElem?_toArray, List.getElem?_cons_succ, List.getElem?_cons_zero]; rfl) (by kernel_rfl) (fun _ _ _ _ _ h => h) ⟨rfl, (by intro c h; cases h), ?_⟩ hHeld ?_
  rotate_left
  focus (intro wS hSw; (try replace hSw := HSF.out wS hSw); (try dsimp only at hSw); go_simp; (try with_reducible rfl))
  (try simp only [Act.put, List.setIfInBounds_toArray, List.set_cons_zero, List.set_cons_succ])
  refine wpAnyS_take 3 (v := ?_) (fun _ => trivial) (by simp only [List.getElem?_toArray, List.getElem?_cons_succ, List.getElem?_cons_zero]; rfl) (by kernel_rfl) (fun _ _ _ _ _ h => h) ⟨rfl, (by intro c h; cases h), ?_⟩ hHeld ?_
  rotate_left
  focus (intro wS hSw; (try replace hSw := HSF.out wS hSw); (try dsimp only at hSw); go_simp; (try with_reducible rfl))
  (try simp only [Act.put, List.setIfInBounds_toArray, List.set_cons_zero, List.set_cons_succ])
  refine wpAnyS_pure 4 (v := ?_) (fun _ => trivial) (by simp only [List.getElem?_toArray, List.getElem?_cons_succ, List.getElem?_cons_zero]; rfl) (by kernel_rfl) (fun _ _ _ _ _ h => h) ⟨rfl, (by intro c h; cases h), ?_⟩ hHeld ?_
  rotate_left
  focus (intro wS hSw; (try replace hSw := HSF.out wS hSw); (try dsimp only at hSw); go_simp; (try with_reducible rfl))
  (try simp only [Act.put, List.setIfInBounds_toArray, List.set_cons_zero, List.set_cons_succ])
  refine wpAnyS_pure 5 (v := ?_) (fun _ => trivial) (by simp only [List.getElem?_toArray, List.getElem?_cons_succ, List.getElem?_cons_zero]; rfl) (by kernel_rfl) (fun _ _ _ _ _ h => h) ⟨rfl, (by intro c h; cases h), ?_⟩ hHeld ?_
  rotate_left
  focus (intro wS hSw; (try replace hSw := HSF.out wS hSw); (try dsimp only at hSw); go_simp; (try with_reducible rfl))
  (try simp only [Act.put, List.setIfInBounds_toArray, List.set_cons_zero, List.set_cons_succ])
  refine wpAnyS_pure 6 (v := ?_) (fun _ => trivial) (by simp only [List.getElem?_toArray, List.getElem?_cons_succ, List.getElem?_cons_zero]; rfl) (by kernel_rfl) (fun _ _ _ _ _ h => h) ⟨rfl, (by intro c h; cases h), ?_⟩ hHeld ?_
  rotate_left
  focus (intro wS hSw; (try replace hSw := HSF.out wS hSw); (try dsimp only at hSw); go_simp; (try with_reducible rfl))
  (try simp only [Act.put, List.setIfInBounds_toArray, List.set_cons_zero, List.set_cons_succ])
  refine wpAnyS_take 7 (v := ?_) (fun _ => trivial) (by simp only [List.getElem?_toArray, List.getElem?_cons_succ, List.getElem?_cons_zero]; rfl) (by kernel_rfl) (fun _ _ _ _ _ h => h) ⟨rfl, (by intro c h; cases h), ?_⟩ hHeld ?_
  rotate_left
  focus (intro wS hSw; (try replace hSw := HSF.out wS hSw); (try dsimp only at hSw); go_simp; (try with_reducible rfl))
  (try simp only [Act.put, List.setIfInBounds_toArray, List.set_cons_zero, List.set_cons_succ])
  refine wpAnyS_ready [8] (by kernel_rfl) (by simp) (AllReadyS.consL (by simp only [List.getElem?_toArray, List.getElem?_cons_succ, List.getElem?_cons_zero]; rfl) rfl (by kernel_rfl) (fun K hK => ?_) AllReadyS.nil)
  refine callV (by intro c h; cases h) (by go_simp; try with_reducible rfl) HCT.out ?_
  intro vv w7 hR
  obtain ⟨ec, L7, s7, rfl, hP, hK7⟩ := K6d.out.call hR
  have K7 := hid hK7
  obtain ⟨p1, p2, p3, p4⟩ := S5.out.sync hP
  have P1 := hid p1; have P2 := hid p2; have P3 := hid p3; have P4 := hid p4
  refine hK.out _ _ ?_
  (try simp only [Act.put, List.setIfInBounds_toArray, List.set_cons_zero, List.set_cons_succ])
  clear hK K hHeld hR hP hK7 p1 p2 p3 p4 HCT HSF
  refine wpAnyS_pureL 9 (v := ?_) (fun _ => trivial) (by simp only [List.getElem?_toArray, List.getElem?_cons_succ, List.getElem?_cons_zero]; rfl) (by kernel_rfl) (by kernel_rfl) (fun _ _ _ _ _ h => h) ⟨rfl, (by intro c h; cases h), ?_⟩ ?_
  rotate_left
  focus (intro wS hSw; (try replace hSw := HSF.out wS hSw); (try dsimp only at hSw); go_simp; (try with_reducible rfl))
  (try simp only [Act.put, List.setIfInBounds_toArray, List.set_cons_zero, List.set_cons_succ])
  refine wpAnyS_done (by kernel_rfl) ?_
  have x4 := K7.out.X.cell 4; have xl := K7.out.X.lt; have xf := K7.out.X.frozen 4
  simp at x4
  by_cases he : ec = 0
  case neg =>
    have X8 := hid (show Blk (w7.setCell ⟨cb, 4, none⟩ (.bool (ec == 0))) cb 86 #[.pointer (some ⟨b, 0, none⟩), .int .i64 f, .int .i64 (n : Int), .string (bs v'), .bool (ec == 0)] by simpa using K7.out.X.set_ 4 (.bool (ec == 0)))
    have K8 := hid (K7.out.own (gr_set w7 cb 4 (.bool (ec == 0))) X8.out)
    go_wp2_with fail
    go_ret
    have hsm := S5.out.2
    rw [HN.out] at hsm
    exact CSRes.bad K8.out (by omega) (P3.out.resolve_left he) ((ce_header hsm HS.out hv' H0.out).shr P2.out) (fun h => he (P4.out (C5.out h)).1)
  subst he
  have X8 := hid (show Blk (w7.setCell ⟨cb, 4, none⟩ (.bool true)) cb 86 #[.pointer (some ⟨b, 0, none⟩), .int .i64 f, .int .i64 (n : Int), .string (bs v'), .bool true] by simpa using K7.out.X.set_ 4 (.bool true))
  have K8 := hid (K7.out.own (gr_set w7 cb 4 (.bool true)) X8.out)
  go_wp2_with fail
  go_ret
  have hfin := P1.out (by first | rfl | trivial)
  rw [HN.out] at hfin
  refine ⟨0, L7, s7, n, v', true, rfl, ⟨fun _ => ⟨_, hfin, ?_⟩, fun h => absurd rfl h, fun h => ⟨rfl, (P4.out (C5.out h)).2⟩⟩, K8.out.mono (by omega), fun _ => ⟨HN.out, rfl⟩⟩
  exact says_header (nslot_or slot) hv' (Has.put _ _ _ (fun e => absurd e H0.out))
end Go.Proofs.YtbefmjodpndndaaDoor
namespace Go.Proofs.YtbefmjodpndndaaDoor
open Go.RowKit Go.IntWalk

/-- A list of strings, a row of the call's own or one that was cut short. -/
def LOwn (w : World) (base : Nat) (v : Value) (l : List ByteArray) : Prop :=
  (∀ x ∈ l, x.size ≤ maxLen) ∧ (strRK.Own w base v l ∨ ∃ g cur, v = .slice (some ⟨g, 0, none⟩) l.length l.length ∧ base ≤ g ∧ Blk w g 9 cur ∧ l.length ≤ maxLen ∧ cur.toList.take l.length = strRK.all l)
section
variable {w w' : World} {base : Nat} {v : Value} {l : List ByteArray}
theorem LOwn.kept (h : LOwn w base v l) (hk : ∀ g cs, v.ownBlock = some g → Blk w g 9 cs → Blk w' g 9 cs) : LOwn w' base v l := by
  refine ⟨h.1, ?_⟩
  rcases h.2 with h | ⟨g, cur, rfl, h2, h3, h4⟩
  · exact .inl (own_kept h hk)
  · exact .inr ⟨g, cur, rfl, h2, hk g cur rfl h3, h4⟩
theorem LOwn.below (h : LOwn w base v l) (hb : Below w.heap.size w w') : LOwn w' base v l := h.kept (fun _ _ _ hB => hB.below hb hB.lt)
theorem LOwn.blk (h : LOwn w base v l) {g : Nat} (hg : v.ownBlock = some g) : base ≤ g ∧ g < w.heap.size ∧ ∃ cs, Blk w g 9 cs := by
  rcases h.2 with h | ⟨g', cur, rfl, h2, h3, h4⟩
  · obtain ⟨h1, cs, h2⟩ := own_blk h g hg
    exact ⟨h1, h2.lt, cs, h2⟩
  · have : g' = g := by simpa [Value.ownBlock] using hg
    subst this
    exact ⟨h2, h3.lt, cur, h3⟩
theorem LOwn.form (h : LOwn w base v l) : ∃ A c, v = .slice A l.length c ∧ l.length ≤ c ∧ c ≤ maxLen ∧ SlR w w.heap.size A l := by
  rcases h.2 with h2 | ⟨g, cur, rfl, h2, h3, h4, h5⟩
  · exact h2.slr h.1
  · refine ⟨_, _, rfl, Nat.le_refl _, h4, fun k x hx => ?_⟩
    obtain ⟨hk, rfl⟩ := List.getElem?_eq_some_iff.1 hx
    refine ⟨g, 0, [.string l[k]], rfl, h3.lt, rfl, fun j u hu => ?_, ⟨rfl, h.1 _ (List.getElem_mem hk)⟩⟩
    have hj : j = 0 := by have := (List.getElem?_eq_some_iff.1 hu).1; simpa using this
    subst hj
    have e2 := strRK.all_at l k hk 0 (by show 0 < 1; omega)
    have e3 : (cur.toList.take l.length)[k]? = cur.toList[k]? := List.getElem?_take_of_lt hk
    have e4 : k * strRK.size + 0 = k := by show k * 1 + 0 = k; omega
    rw [e4, ← h5, e3] at e2
    have e5 : cur[k]? = cur.toList[k]? := by simp
    show w.cell? ⟨g, 0 + k * 1 + 0, none⟩ = some u
    rw [h3.cell, show 0 + k * 1 + 0 = k by omega, e5, e2]
    exact hu
end
/-- The journal's own block, and its list. -/
structure Jr (w : World) (base jk b cb : Nat) (jb : Int) (v : Value) (l : List ByteArray) (br : Bool) : Prop where
  j : Blk w jk 71 #[.pointer (some ⟨b, 0, none⟩), .int .i64 jb, .pointer (some ⟨cb, 0, none⟩), v, .int .i64 ((formB l).length : Nat), .bool br]
  l : LOwn w base v l
def numsA (slot : Nat) (v : Bs) : Int × Int × Bool := if slot = 0 then (0, 0, true) else numsF v
theorem numsA_bd (slot : Nat) (v : Bs) : 0 ≤ (numsA slot v).1 ∧ (numsA slot v).1 ≤ 9223372036854775807 ∧ 0 ≤ (numsA slot v).2.1 ∧ (numsA slot v).2.1 ≤ 9223372036854775807 := by
  unfold numsA
  split
  · simp
  · have h1 := rN_bd (v, false)
    have h2 := rN_bd (rN (v, false)).2
    exact ⟨h1.1, h1.2.2, h2.1, h2.2.2⟩
/-- What a cell and a log say of a list. -/
def openF (slot : Nat) (v log : Bs) : Option (List Bs) :=
  if (numsA slot v).2.2 = true ∧ readB (log.take (numsA slot v).1.toNat) (numsA slot v).2.1.toNat = true ∧ (log.take (numsA slot v).1.toNat).length = (numsA slot v).1.toNat then some (readL (log.take (numsA slot v).1.toNat) (numsA slot v).2.1.toNat) else none
theorem numbers_any (cb b : Nat) (f : Int) (slot : Nat) (v : Bs) (sure : Bool) (w : World) (h : Cel w cb b f slot v sure) (hs : slot = 0 → v = []) (hv : v.length ≤ 65536) (he : Env w) :
    Calls Tryd.prog 35 #[.pointer (some ⟨cb, 0, none⟩)] w fun e w' => e = .returned (.tuple #[.int .i64 (numsA slot v).1, .int .i64 (numsA slot v).2.1, .bool (numsA slot v).2.2]) ∧ Below w.heap.size w w' := by
  unfold numsA
  split
  · rename_i h0
    subst h0
    rw [hs rfl] at h
    exact numbers_none cb b f sure w h
  · exact numbers_some cb b f slot v sure w h (by omega) hv he
theorem CellSays.slot0 {c : Bs} {slot : Nat} {v : Bs} (h : CellSays c slot v) : (slot = 0 → v = []) ∧ v.length ≤ 65536 ∧ slot ≤ 2 := by
  rcases h with ⟨h1, h2, _⟩ | ⟨h1, h2, _⟩
  · exact ⟨fun _ => h2, by rw [h2]; simp, by omega⟩
  · exact ⟨fun e => by omega, h2, by omega⟩
theorem copen_any (b base : Nat) (L : DL) (s : DS) (N : Nat) (f : Int) (slot : Nat) (v : Bs) (w : World) (h : Dsk w base b L s N) (hd : s.down = false) (hf : 0 ≤ f ∧ f < 16) (hO : OffE w) (hc : CellSays (s.fl f).1 slot v) :
    Calls Tryd.prog 34 #[.pointer (some ⟨b, 0, none⟩), .int .i64 f] w fun e w' => e = .returned (.tuple #[.pointer (some ⟨w.heap.size, 0, none⟩), .int .i64 0]) ∧ Cel w' w.heap.size b f slot v false ∧ Below w.heap.size w w' := by
  rcases hc with ⟨rfl, rfl, h3⟩ | ⟨h1, h2, h3, h4⟩
  · exact copen_none b base L s N f w h hd hf h3
  · exact copen_some b base L s N f slot v w h hd hf hO h1 h2 h3 h4
/-- What is laid ahead of base: the library's variables, the cell's offsets. -/
def EB (base : Nat) (w : World) : Prop := 0 < base ∧ ∀ W, Chg w W (fun k => base ≤ k) → Env W ∧ OffE W
section
variable {w w' : World} {base : Nat}
theorem EB.env (h : EB base w) : Env w := (h.2 w (Chg.refl _ _)).1
theorem EB.off (h : EB base w) : OffE w := (h.2 w (Chg.refl _ _)).2
theorem EB.chg {S : Nat → Prop} (h : EB base w) (hc : Chg w w' S) (hS : ∀ k, S k → base ≤ k) : EB base w' := ⟨h.1, fun W hW => h.2 W (Chg.trans (hc.mono hS) hW (fun _ _ h => h))⟩
theorem EB.below (h : EB base w) (hb : Below w.heap.size w w') : EB base w' := h.chg (Chg.of_below hb (fun _ => False)) (fun _ h => h.elim)
theorem EB.dsk {b : Nat} {L : DL} {s : DS} {N : Nat} (h : EB base w) (hD : Dsk w base b L s N) (hc : Chg w w' (DFP b L)) : EB base w' := h.chg hc (fun k hk => (hD.lt hk).1)
theorem EB.of (h1 : Env w) (h2 : OffE w) : EB w.heap.size w := by
  refine ⟨h2.lt, fun W hW => ?_⟩
  have hb : Below w.heap.size w W := ⟨hW.os, hW.tape, hW.output, hW.size, fun k hk => hW.block k hk (by omega)⟩
  exact ⟨h1.below hb, h2.chg (Chg.of_below hb (fun _ => False)) (fun h => h)⟩
end
/-- After k syncs. -/
def OpK (s s1 : DS) (jb : Int) (k : Nat) : Prop := s1.down = false ∧ Shr s s1 ∧ (Calm s → Calm s1) ∧ s1.fl = fun y => if (y = jb ∧ 1 ≤ k) ∨ (y = jb + 1 ∧ 2 ≤ k) then ((s.fl y).1, (s.fl y).1) else s.fl y
theorem OpK.start {s : DS} (hd : s.down = false) (jb : Int) : OpK s s jb 0 := by
  refine ⟨hd, Shr.refl s, id, ?_⟩
  funext y
  rw [if_neg (by omega)]
theorem OpK.now {s s1 : DS} {jb : Int} {k : Nat} (h : OpK s s1 jb k) (f : Int) : (s1.fl f).1 = (s.fl f).1 := by
  rw [h.2.2.2]; simp only; split <;> rfl
theorem OpK.step {s s1 s2 : DS} {jb e : Int} {k : Nat} (h : OpK s s1 jb k) (hk : k < 2) (hs : SyR s1 (jb + (k : Int)) e s2) : (e = 0 → OpK s s2 jb (k + 1)) ∧ Shr s s2 ∧ (e = 0 ∨ e = 9 ∨ e = 10) ∧ (Calm s → e = 0) := by
  obtain ⟨h1, h2, h3, h4⟩ := hs.spec
  refine ⟨fun he => ?_, h.2.1.trans h1, h2, fun hc => (h4 (h.2.2.1 hc)).1⟩
  obtain ⟨_, hd, hfl⟩ := h3 he
  refine ⟨hd, h.2.1.trans h1, fun hc => (h4 (h.2.2.1 hc)).2, ?_⟩
  rw [hfl]
  funext y
  simp only [h.now]
  rw [h.2.2.2]
  simp only
  have : k = 0 ∨ k = 1 := by omega
  rcases this with rfl | rfl
  · by_cases hy : y = jb
    · subst hy; simp
    · have : ¬ y = jb + ((0 : Nat) : Int) := by omega
      rw [if_neg this, if_neg (by omega), if_neg (by omega)]
  · by_cases hy : y = jb + 1
    · subst hy; simp
    · have : ¬ y = jb + ((1 : Nat) : Int) := by omega
      rw [if_neg this]
      by_cases hy2 : y = jb
      · rw [if_pos (by omega), if_pos (by omega)]
      · rw [if_neg (by omega), if_neg (by omega)]
/-- How Open ends. -/
def OpRes (w : World) (base b : Nat) (L : DL) (s : DS) (jb : Int) (slot : Nat) (v : Bs) (N : Nat) (e : Ending) (w' : World) : Prop :=
  ∃ (L' : DL) (s' : DS), Dsk w' base b L' s' N ∧ Chg w w' (DFP b L) ∧ (∀ k, DFP b L' k → DFP b L k ∨ w.heap.size ≤ k) ∧ Shr s s' ∧
    ((∃ ec : Int, (ec = 9 ∨ ec = 10) ∧ ¬ Calm s ∧ e = .returned (.tuple #[.pointer none, .int .i64 ec])) ∨
     (OpK s s' jb 2 ∧ match openF slot v (s.fl jb).1 with
      | none => e = .returned (.tuple #[.pointer none, .int .i64 2])
      | some l => ∃ (jk cb : Nat) (lv : Value), e = .returned (.tuple #[.pointer (some ⟨jk, 0, none⟩), .int .i64 0]) ∧ w.heap.size ≤ jk ∧ w.heap.size ≤ cb ∧ (∀ g, lv.ownBlock = some g → w.heap.size ≤ g) ∧ Jr w' base jk b cb jb lv (l.map bs) false ∧ Cel w' cb b (jb + 1) slot v false))
end Go.Proofs.YtbefmjodpndndaaDoor
namespace Go.Proofs.YtbefmjodpndndaaDoor
open Go.RowKit Go.IntWalk

structure OW (w1 wr : World) (base b : Nat) (L L1 : DL) (s s1 : DS) (jb : Int) (k N : Nat) : Prop where
  H : Dsk wr base b L1 s1 (N + k)
  C : Chg w1 wr (DFP b L)
  lo : ∀ q, DFP b L1 q → DFP b L q ∨ w1.heap.size ≤ q
  o : OpK s s1 jb k
theorem readB_of {s : Bs} {n : Nat} {log : Bs} {slot : Nat} {v : Bs} {m : Nat} (h1 : (numsA slot v).1 = (m : Int)) (h2 : (numsA slot v).2.1 = (n : Int)) (hs : s = log.take m) : openF slot v log = if (numsA slot v).2.2 = true ∧ readB s n = true ∧ s.length = m then some (readL s n) else none := by
  unfold openF
  rw [h1, h2, Int.toNat_natCast, Int.toNat_natCast, ← hs]
set_option maxRecDepth 100000 in
set_option maxHeartbeats 8000000 in
theorem jopen_any (b base : Nat) (L : DL) (s : DS) (N : Nat) (jb : Int) (slot : Nat) (v : Bs) (w : World) (h : Dsk w base b L s N) (he : EB base w) (hd : s.down = false) (hj0 : 0 ≤ jb) (hj1 : jb ≤ 14) (hc : CellSays (s.fl (jb + 1)).1 slot v) (hN : N + 2 ≤ 50000000) (hbase : base ≤ w.heap.size) :
    Calls Tryd.prog 11 #[.pointer (some ⟨b, 0, none⟩), .int .i64 jb] w (OpRes w base b L s jb slot v (N + 2)) := by
  have hj2 : ¬ jb < 0 := by omega
  have hj3 : ¬ 14 < jb := by omega
  obtain ⟨w1, hw1⟩ : ∃ w1, w1 = w.alloc (Obj.cells #[Value.int .i64 jb, Value.int .i64 (jb + 1)] 3) := ⟨_, rfl⟩
  have B1 := hid (show Below w.heap.size w w1 by rw [hw1]; (repeat (first | exact Below.refl _ _ | assumption | refine below_drewN ?_ _ | refine Below.drew ?_ | refine Below.alloc ?_ (by (try simp); (try omega)) _ | refine Below.setCell ?_ (by (try simp); (try omega)) _)))
  have A1 := hid (show Blk w1 w.heap.size 3 #[Value.int .i64 jb, Value.int .i64 (jb + 1)] by rw [hw1]; exact Blk.new w _ _)
  have NA := hid (show ¬ DFP b L w.heap.size from fun e => by have := (h.lt e).2; omega)
  have W0 := hid (show OW w1 w1 base b L L s s jb 0 N from ⟨h.below B1.out, Chg.refl _ _, fun _ h => .inl h, OpK.start hd jb⟩)
  have HC := hid (fun (L1 : DL) (s1 : DS) (wr : World) (k : Nat) (hW : OW w1 wr base b L L1 s s1 jb k N) => show Chg w wr (DFP b L) from Chg.trans (Chg.of_below B1.out (DFP b L)) hW.C (fun _ _ h => h))
  have HLO := hid (fun (L1 : DL) (s1 : DS) (wr : World) (k : Nat) (hW : OW w1 wr base b L L1 s s1 jb k N) => show ∀ q, DFP b L1 q → DFP b L q ∨ w.heap.size ≤ q from fun q hq => (hW.lo q hq).imp id (fun e => Nat.le_trans B1.out.size e))
  have HB := hid (fun (q : Nat) (hq : DFP b L q) => (h.lt hq).1)
  have HE := hid (fun (L1 : DL) (s1 : DS) (wr : World) (k : Nat) (hW : OW w1 wr base b L L1 s s1 jb k N) => show EB base wr from he.chg (HC.out L1 s1 wr k hW) (fun q hq => HB.out q hq))
  have hs0 := hc.slot0
  have HCS := hid hc
  have HS0 := hid hs0
  have HBD := hid (numsA_bd slot v)
  have hsz1 := hid B1.out.size
  have HN := hid hN
  clear h he hd hc hs0 hN
  go_enter Tryd.func11, Tryd.ntmps11
  go_upto_region 4 with fail
  rw [← hw1]
  clear hw1
  obtain ⟨ga, hga⟩ : ∃ ga, ga = w.heap.size := ⟨_, rfl⟩
  rw [← hga] at A1 NA ⊢
  have HGA := hid hga
  clear hga
  go_loopw [7, 8, 27] (fun _ _ iv wr => ∃ (k : Nat) (L1 : DL) (s1 : DS), k ≤ 2 ∧ iv = .int .i64 (k : Nat) ∧ OW w1 wr base b L L1 s s1 jb k N) (fun _ _ iv _ => 2 - (intOf iv).toNat)
  case atStart => exact ⟨0, L, s, by omega, rfl, W0.out⟩
  case round =>
    obtain ⟨k, L1, s1, hk, rfl, hW⟩ := hrel
    have HW := hid hW
    clear hW
    by_cases hlt : k < 2
    case pos =>
      have hltI : (k : Int) < 2 := by omega
      have AR := hid (HW.out.C.blk A1.out NA.out)
      have hcl : wr.cell? ⟨ga, k, none⟩ = some (.int .i64 (jb + (k : Int))) := by
        rw [AR.out.cell]
        have : k = 0 ∨ k = 1 := by omega
        rcases this with rfl | rfl <;> simp
      have hal := AR.out.lt
      have HS := hid (sync_v b base L1 s1 (N + k) (jb + (k : Int)) wr HW.out.H ⟨by omega, by omega⟩ (by have := HN.out; omega) (Nat.le_trans hbase (HC.out _ _ _ _ HW.out).size))
      obtain ⟨f, hf⟩ : ∃ f, f = jb + (k : Int) := ⟨_, rfl⟩
      rw [← hf] at hcl HS
      have HF := hid hf
      clear hf
      go_wp2_with fail
      refine HS.out.mono ?_
      rintro e w2 ⟨vv, rfl, ec, L2, s2, rfl, hP, hD, hC, hl⟩
      rw [HF.out] at hP
      obtain ⟨p1, p2, p3, p4⟩ := HW.out.o.step hlt hP
      have P1 := hid p1; have P2 := hid p2; have P3 := hid p3; have P4 := hid p4
      have HD2 := hid hD
      have C2 := hid (Chg.trans HW.out.C hC (fun q hq hx => (HW.out.lo q hx).elim id (fun e => by omega)))
      have L2H := hid (fun q (hq : DFP b L2 q) => (hl q hq).elim (HW.out.lo q) (fun e => .inr (Nat.le_trans HW.out.C.size e)))
      clear hP p1 p2 p3 p4 hD hC hl hcl hal
      by_cases h0 : ec = 0
      case pos =>
        subst h0
        have HW2 := hid (show OW w1 w2 base b L L2 s s2 jb (k + 1) N from ⟨by have := HD2.out; rwa [Nat.add_assoc] at this, C2.out, L2H.out, P1.out (by first | rfl | trivial)⟩)
        go_wp2_with fail
        exact ⟨⟨k + 1, L2, s2, by omega, by go_num, HW2.out⟩, by simp [intOf]; omega⟩
      case neg =>
        have h0' : ec ≠ 0 := h0
        go_wp2_with fail
        go_ret2
        refine ⟨L2, s2, HD2.out.mono (by omega), Chg.trans (Chg.of_below B1.out (DFP b L)) C2.out (fun _ _ h => h), fun q hq => (L2H.out q hq).imp id (fun e => Nat.le_trans B1.out.size e), P2.out, .inl ⟨ec, P3.out.resolve_left h0, fun h => h0 (P4.out h), rfl⟩⟩
    case neg =>
      obtain rfl : k = 2 := by omega
      have hnow := HW.out.o.now
      have hdn := HW.out.o.1
      have E1 := hid (HE.out _ _ _ _ HW.out)
      have HCO := hid (copen_any b base L1 s1 (N + 2) (jb + 1) slot v wr HW.out.H hdn ⟨by omega, by omega⟩ E1.out.off (by rw [hnow]; exact HCS.out))
      have HNOW := hid hnow
      have HDN := hid hdn
      clear hnow hdn
      go_wp2_with fail
      refine HCO.out.mono ?_
      rintro e w2 ⟨rfl, hX, hB⟩
      have X2 := hid hX
      have B2 := hid hB
      obtain ⟨cb, hcb⟩ : ∃ cb, cb = wr.heap.size := ⟨_, rfl⟩
      rw [← hcb] at X2 ⊢
      have HCB := hid hcb
      have E2 := hid (E1.out.below hB)
      clear hX hB hcb HCO
      have HNU := numbers_any cb b (jb + 1) slot v false w2 X2.out HS0.out.1 HS0.out.2.1 E2.out.env
      obtain ⟨m, hm⟩ := Int.eq_ofNat_of_zero_le HBD.out.1
      obtain ⟨n, hn⟩ := Int.eq_ofNat_of_zero_le HBD.out.2.2.1
      obtain ⟨q, hq⟩ : ∃ q, q = (numsA slot v).2.2 := ⟨_, rfl⟩
      have hmb := HBD.out.2.1
      have hnb := HBD.out.2.2.2
      rw [hm, hn, ← hq] at HNU
      rw [hm] at hmb
      rw [hn] at hnb
      have HNU := hid HNU
      obtain ⟨sl, hsl⟩ : ∃ sl, sl = (s.fl jb).1.take m := ⟨_, rfl⟩
      have HOP := readB_of (log := (s.fl jb).1) hm hn hsl
      rw [← hq] at HOP
      have HOP := hid HOP
      have HRD := fun (W : World) (hD : Dsk W base b L1 s1 (N + 2)) => read_up b base L1 s1 (N + 2) jb 0 m W hD HDN.out ⟨by omega, by omega⟩ (by omega) (by omega)
      rw [HNOW.out, List.drop_zero, ← hsl] at HRD
      have HRD := hid HRD
      have hsz : sl.length ≤ 16777216 := by
        rw [hsl, List.length_take]
        have := HW.out.H.ok.now jb
        rw [HNOW.out] at this
        omega
      clear hm hn hq hsl
      go_wp2_with fail
      refine HNU.out.mono ?_
      rintro e w3 ⟨rfl, hB⟩
      have B3 := hid (B2.out.trans (hB.mono B2.out.size))
      have X3 := hid (show Cel w3 cb b (jb + 1) slot v false from Blk.below X2.out hB X2.out.lt)
      have E3 := hid (E2.out.below hB)
      have D3 := hid (HW.out.H.below B3.out)
      clear hB HNU
      have FIN := hid (fun (W : World) (hB : Below wr.heap.size wr W) => show Dsk W base b L1 s1 (N + 2) ∧ Chg w W (DFP b L) ∧ (∀ k, DFP b L1 k → DFP b L k ∨ w.heap.size ≤ k) from ⟨HW.out.H.below hB, Chg.trans (HC.out _ _ _ _ HW.out) (Chg.of_below hB (DFP b L)) (fun _ _ h => h), HLO.out _ _ _ _ HW.out⟩)
      cases q with
      | false =>
        have HON := hid (show openF slot v (s.fl jb).1 = none by rw [HOP.out]; exact if_neg (by simp))
        go_wp2_with fail
        go_ret2
        obtain ⟨f1, f2, f3⟩ := FIN.out _ B3.out
        exact ⟨L1, s1, f1, f2, f3, HW.out.o.2.1, .inr ⟨HW.out.o, by rw [HON.out]; rfl⟩⟩
      | true =>
        have HRD3 := hid (show Calls Tryd.prog 36 #[.pointer (some ⟨b, 0, none⟩), .int .i64 jb, .int .i64 0, .int .i64 (m : Int)] w3 fun e w' => e = .returned (.tuple #[.string (bs sl), .int .i64 0]) ∧ w3 = w' from HRD.out w3 D3.out)
        go_wp2_with fail
        refine HRD3.out.mono ?_
        rintro e w4 ⟨rfl, rfl⟩
        have HRE := read_any sl n w3 (by omega) (by omega) E3.out.env
        obtain ⟨rb, hrb⟩ : ∃ rb, rb = readB sl n := ⟨_, rfl⟩
        obtain ⟨rl, hrl⟩ : ∃ rl, rl = readL sl n := ⟨_, rfl⟩
        rw [← hrb, ← hrl] at HRE
        have hform : rb = true → formB (rl.map bs) = sl := fun h => by rw [hrl]; exact (readB_form (hrb ▸ h)).1
        have HFM := hid hform
        have HOP2 := HOP.out
        rw [← hrb, ← hrl] at HOP2
        have HOP3 := hid HOP2
        have HRE := hid HRE
        have HEACH := hid (show ∀ x ∈ rl, x.length ≤ sl.length from by rw [hrl]; exact readL_each n (sl, false))
        have hssz := bs_size sl
        clear hrb hrl hform HOP2 HOP HRD HRD3
        go_wp2_with fail
        refine HRE.out.mono ?_
        rintro e w5 ⟨lv, rfl, hO, hB⟩
        have B5 := hid (B3.out.trans (hB.mono B3.out.size))
        have X5 := hid (show Cel w5 cb b (jb + 1) slot v false from Blk.below X3.out hB X3.out.lt)
        have O5 := hid hO
        have hws := hid (show w.heap.size ≤ w3.heap.size from Nat.le_trans (HC.out _ _ _ _ HW.out).size B3.out.size)
        clear hO hB HRE
        cases rb with
        | false =>
          have HON := hid (show openF slot v (s.fl jb).1 = none by rw [HOP3.out]; exact if_neg (by simp))
          go_wp2_with fail
          go_ret2
          obtain ⟨f1, f2, f3⟩ := FIN.out _ B5.out
          exact ⟨L1, s1, f1, f2, f3, HW.out.o.2.1, .inr ⟨HW.out.o, by rw [HON.out]; rfl⟩⟩
        | true =>
          by_cases hml : sl.length = m
          case neg =>
            have HON := hid (show openF slot v (s.fl jb).1 = none by rw [HOP3.out]; exact if_neg (by simp [hml]))
            have hmlI : ¬ (sl.length : Int) = (m : Int) := by omega
            have hmlb : ((sl.length : Int) != (m : Int)) = true := by simp; omega
            clear hml
            go_wp2_with fail
            go_ret2
            obtain ⟨f1, f2, f3⟩ := FIN.out _ B5.out
            exact ⟨L1, s1, f1, f2, f3, HW.out.o.2.1, .inr ⟨HW.out.o, by rw [HON.out]; rfl⟩⟩
          case pos =>
            have HON := hid (show openF slot v (s.fl jb).1 = some rl by rw [HOP3.out]; exact if_pos (by simp [hml]))
            subst hml
            have hmlb : ((sl.length : Int) != (sl.length : Int)) = false := by simp
            obtain ⟨w6, hw6⟩ : ∃ w6, w6 = w5.alloc (Obj.cells #[.pointer (some ⟨b, 0, none⟩), .int .i64 jb, .pointer (some ⟨cb, 0, none⟩), lv, .int .i64 (sl.length : Int), .bool false] 71) := ⟨_, rfl⟩
            have B6 := hid (show Below w5.heap.size w5 w6 by rw [hw6]; (repeat (first | exact Below.refl _ _ | assumption | refine below_drewN ?_ _ | refine Below.drew ?_ | refine Below.alloc ?_ (by (try simp); (try omega)) _ | refine Below.setCell ?_ (by (try simp); (try omega)) _)))
            have J6 := hid (show Blk w6 w5.heap.size 71 #[.pointer (some ⟨b, 0, none⟩), .int .i64 jb, .pointer (some ⟨cb, 0, none⟩), lv, .int .i64 (sl.length : Int), .bool false] by rw [hw6]; exact Blk.new w5 _ _)
            have HW6 := hid hw6
            have hws5 := hid (show w.heap.size ≤ w5.heap.size from Nat.le_trans (HC.out _ _ _ _ HW.out).size B5.out.size)
            obtain ⟨Al, cl, hlv⟩ := O5.out.form
            rw [List.length_map] at hlv
            subst hlv
            clear hw6
            go_wp2_with fail
            rw [← HW6.out]
            go_ret2
            obtain ⟨f1, f2, f3⟩ := FIN.out _ (B5.out.trans (B6.out.mono B5.out.size))
            refine ⟨L1, s1, f1, f2, f3, HW.out.o.2.1, .inr ⟨HW.out.o, ?_⟩⟩
            rw [HON.out]
            refine ⟨_, cb, _, rfl, hws5.out, by rw [HCB.out]; exact (HC.out _ _ _ _ HW.out).size, fun g hg => Nat.le_trans hws.out (World.ownsRow.lt O5.out g hg).1, ⟨?_, ⟨?_, .inl ?_⟩⟩, X5.out.below B6.out X5.out.lt⟩
            · rw [HFM.out (by first | rfl | trivial)]; exact J6.out
            · intro x hx
              obtain ⟨y, hy, rfl⟩ := List.mem_map.1 hx
              have := HEACH.out y hy
              rw [bs_size]; unfold maxLen; omega
            · exact (O5.out.below B6.out).base_ (Nat.le_trans hbase hws.out)
end Go.Proofs.YtbefmjodpndndaaDoor
