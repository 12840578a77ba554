
/- Journal: the cell in memory; Get. -/
import Derived.Test.YtbefmjodpndndaaDoorJoB
import Derived.Test.YtbefmjodpndndaaDoorWireB
set_option linter.unusedSimpArgs false
set_option linter.unusedVariables false
namespace Go.Proofs.YtbefmjodpndndaaDoor
open Go.RowKit Go.IntWalk

section
variable {w w1 w' : World} {base b : Nat} {L L1 : DL} {s s1 : DS} {N N' : Nat}
/-- One call behind another. -/
theorem DRes.after {P : Ending → DS → Prop} {e : Ending} (hc : Chg w w1 (DFP b L)) (hl : ∀ k, DFP b L1 k → DFP b L k ∨ w.heap.size ≤ k) (h : DRes w1 base b L1 N' P e w') : DRes w base b L N' P e w' := by
  obtain ⟨L', s', hP, hD, hC, hL⟩ := h
  refine ⟨L', s', hP, hD, Chg.trans hc hC (fun k hk h => (hl k h).elim id (fun h => by omega)), fun k hk => ?_⟩
  rcases hL k hk with h | h
  · exact hl k h
  · exact .inr (Nat.le_trans hc.size h)
theorem DRes.more {P Q : Ending → DS → Prop} {e : Ending} (h : DRes w base b L N P e w') (hN : N ≤ N') (hPQ : ∀ s', P e s' → Q e s') : DRes w base b L N' Q e w' := by
  obtain ⟨L', s', hP, hD, hC, hL⟩ := h
  exact ⟨L', s', hPQ s' hP, hD.mono hN, hC, hL⟩
/-- The numbers that the disk keeps for a crash. -/
theorem Dsk.keep (h : Dsk w base b L s N) : ∃ (A : Option Addr) (c : Nat) (l : List Int), L.kv = .slice A l.length c ∧ l.length ≤ 65536 ∧ KeepAt w b L.mf A l := by
  obtain ⟨l, hk, hl, hx⟩ := h.k
  obtain ⟨A, c, hv, hA⟩ := hk.form
  refine ⟨A, c, l, hv, hl, fun k hkl => ?_⟩
  obtain ⟨g, rfl, h1, h2, h3, _⟩ := hA (by intro e; subst e; simp at hkl)
  have hne := h.d
  obtain ⟨es, ck, hm⟩ := h.f.heap
  have hob : L.kv.ownBlock = some g := by rw [hv]; rfl
  exact ⟨g, 0, rfl, fun e => own_blk_ne hk h.d (by decide) (by rw [hob, e]), fun e => own_ne_map hk hm (by rw [hob, e]), h2, by rw [Nat.zero_add]; exact h3 k hkl⟩
end
/-- What Write does. -/
def WrR (s : DS) (f : Int) (p : Nat) (t : Bs) (e : Int) (s' : DS) : Prop :=
  (endsB s = false ∧ s.down = true ∧ e = 9 ∧ s' = endsS s) ∨ (endsB s = false ∧ s.down = false ∧ e = 0 ∧ s' = wrS (endsS s) f p t) ∨ (endsB s = true ∧ s.down = false ∧ e = 9 ∧ CrashR (wrS (endsS s) f p t) s')
theorem endsS_down (s : DS) : (endsS s).down = s.down := by unfold endsS; split <;> rfl
theorem endsB_up {s : DS} (h : endsB s = true) : s.down = false := by
  unfold endsB at h
  cases hd : s.down with
  | false => rfl
  | true => rw [hd] at h; simp at h
set_option maxRecDepth 100000 in
set_option maxHeartbeats 4000000 in
theorem dwrite_any (b base : Nat) (L : DL) (s : DS) (N : Nat) (f : Int) (p : Nat) (t : Bs) (w : World) (h : Dsk w base b L s N) (hf : 0 ≤ f ∧ f < 16) (hp : p + t.length ≤ 16777216) (hN : N + 2 * t.length + 5 ≤ 50000000) (hbase : base ≤ w.heap.size) :
    Calls Tryd.prog 10 #[.pointer (some ⟨b, 0, none⟩), .int .i64 f, .int .i64 (p : Int), .string (bs t)] w (DRes w base b L (N + 2 * t.length + 5) fun e s' => ∃ ec : Int, e = .returned (.int .i64 ec) ∧ WrR s f p t ec s') := by
  have HE := hid (ends_any b base L s N w h)
  have hup := endsS_down s
  obtain ⟨s1, hs1⟩ : ∃ s1, s1 = endsS s := ⟨_, rfl⟩
  rw [← hs1] at HE hup
  have HS1 := hid hs1
  have HUP := hid hup
  clear h hs1 hup
  cases hd : s.down with
  | true =>
    have he : endsB s = false := by simp [endsB, hd]
    rw [he] at HE
    have HD := hid (And.intro hd he)
    clear hd he
    go_enter Tryd.func10, Tryd.ntmps10
    go_wp2_with fail
    refine HE.out.mono ?_
    rintro e w1 ⟨rfl, hD, hC⟩
    have H1 := hid hD
    have C1 := hid hC
    clear hD hC
    go_wp2_with fail
    refine (write_down b base L s1 N f p (bs t) w1 H1.out (HUP.out.trans HD.out.1)).mono ?_
    rintro e w2 ⟨rfl, rfl⟩
    go_wp2_with fail
    go_ret
    exact ⟨L, s1, ⟨9, rfl, .inl ⟨HD.out.2, HD.out.1, rfl, HS1.out⟩⟩, H1.out.mono (by omega), C1.out, fun _ h => .inl h⟩
  | false =>
    have HD := hid hd
    have HEB := hid (show endsB s = endsB s from rfl)
    obtain ⟨eb, heb⟩ : ∃ eb, eb = endsB s := ⟨_, rfl⟩
    rw [← heb] at HE
    have HB := hid heb
    clear hd heb HEB
    go_enter Tryd.func10, Tryd.ntmps10
    go_wp2_with fail
    refine HE.out.mono ?_
    rintro e w1 ⟨rfl, hD, hC⟩
    have H1 := hid hD
    have C1 := hid hC
    clear hD hC
    go_wp2_with fail
    refine (write_up b base L s1 N f p t w1 H1.out (HUP.out.trans HD.out) hf hp hN (Nat.le_trans hbase C1.out.size)).mono ?_
    rintro e w2 ⟨L2, s2, ⟨rfl, hs2⟩, hD2, hC2, hL2⟩
    have H2 := hid hD2
    have HS2 := hid hs2
    have C2 := hid (Chg.trans C1.out hC2 (fun k _ h => h))
    have L2H := hid (fun k (hk : DFP b L2 k) => (hL2 k hk).imp id (fun h => Nat.le_trans C1.out.size h))
    clear hD2 hs2 hC2 hL2
    cases eb with
    | false =>
      go_wp2_with fail
      go_ret
      exact ⟨L2, s2, ⟨0, rfl, .inr (.inl ⟨HB.out.symm, HD.out, rfl, by rw [HS2.out, HS1.out]⟩)⟩, H2.out, C2.out, L2H.out⟩
    | true =>
      obtain ⟨A, c, l, hv, hl, hkp⟩ := H2.out.keep
      have c6 := H2.out.cells.2.2.2.2.2.2
      rw [hv] at c6
      have hlt := H2.out.d.lt
      have HKP := hid hkp
      clear hkp hv
      go_wp2_with fail
      refine (crash_any b base L2 s2 _ A c l w2 H2.out hl HKP.out hN (Nat.le_trans hbase C2.out.size)).mono ?_
      rintro e w3 hR
      obtain ⟨L3, s3, ⟨rfl, hcr⟩, hD3, hC3, hL3⟩ := DRes.after C2.out L2H.out hR
      have H3 := hid hD3
      have C3 := hid hC3
      have L3H := hid hL3
      have HCR := hid hcr
      clear hD3 hC3 hL3 hcr hR
      go_wp2_with fail
      go_ret
      exact ⟨L3, s3, ⟨9, rfl, .inr (.inr ⟨HB.out.symm, HD.out, rfl, by rw [← HS1.out, ← HS2.out]; exact HCR.out⟩)⟩, H3.out, C3.out, L3H.out⟩
end Go.Proofs.YtbefmjodpndndaaDoor
namespace Go.Proofs.YtbefmjodpndndaaDoor
open Go.RowKit Go.IntWalk

/-- What Sync does. -/
def SyR (s : DS) (f : Int) (e : Int) (s' : DS) : Prop :=
  (endsB s = true ∧ e = 9 ∧ CrashR (endsS s) s') ∨ (endsB s = false ∧ s.down = true ∧ e = 9 ∧ s' = endsS s) ∨
  (endsB s = false ∧ s.down = false ∧ 0 < s.lost ∧ e = 10 ∧ s' = { endsS s with lost := s.lost - 1 }) ∨ (endsB s = false ∧ s.down = false ∧ s.lost = 0 ∧ e = 0 ∧ s' = stS (endsS s) f (s.fl f).1)
theorem endsS_lost (s : DS) : (endsS s).lost = s.lost := by unfold endsS; split <;> rfl
theorem endsS_fl (s : DS) : (endsS s).fl = s.fl := by unfold endsS; split <;> rfl
theorem CrashR.down {s s' : DS} (h : CrashR s s') : s'.down = true := h.1
set_option maxRecDepth 100000 in
set_option maxHeartbeats 4000000 in
theorem sync_any (b base : Nat) (L : DL) (s : DS) (N : Nat) (f : Int) (w : World) (h : Dsk w base b L s N) (hf : 0 ≤ f ∧ f < 16) (hN : N + 1 ≤ 50000000) (hbase : base ≤ w.heap.size) :
    Calls Tryd.prog 33 #[.pointer (some ⟨b, 0, none⟩), .int .i64 f] w (DRes w base b L (N + 1) fun e s' => ∃ ec : Int, e = .returned (.int .i64 ec) ∧ SyR s f ec s') := by
  have HE := hid (ends_any b base L s N w h)
  have hup := endsS_down s
  have hlo := endsS_lost s
  have hfl := endsS_fl s
  obtain ⟨s1, hs1⟩ : ∃ s1, s1 = endsS s := ⟨_, rfl⟩
  rw [← hs1] at HE hup hlo hfl
  have HS1 := hid hs1
  have HUP := hid hup
  have HLO := hid hlo
  have HFL := hid hfl
  have hi : I64 f := ⟨by omega, by omega⟩
  clear h hs1 hup hlo hfl
  obtain ⟨eb, heb⟩ : ∃ eb, eb = endsB s := ⟨_, rfl⟩
  rw [← heb] at HE
  have HB := hid heb
  clear heb
  cases eb with
  | true =>
    go_enter Tryd.func33, Tryd.ntmps33
    go_wp2_with fail
    refine HE.out.mono ?_
    rintro e w1 ⟨rfl, hD, hC⟩
    have H1 := hid hD
    have C1 := hid hC
    obtain ⟨A, c, l, hv, hl, hkp⟩ := hD.keep
    have c6 := hD.cells.2.2.2.2.2.2
    rw [hv] at c6
    have hlt := hD.d.lt
    have HKP := hid hkp
    clear hkp hv hD hC
    go_wp2_with fail
    refine (crash_any b base L s1 N A c l w1 H1.out hl HKP.out (by omega) (Nat.le_trans hbase C1.out.size)).mono ?_
    rintro e w3 hR
    obtain ⟨L3, s3, ⟨rfl, hcr⟩, hD3, hC3, hL3⟩ := DRes.after C1.out (fun _ h => .inl h) hR
    have H3 := hid hD3
    have C3 := hid hC3
    have L3H := hid hL3
    have HCR := hid hcr
    have HM := hid (may_any b base L3 s3 N f w3 hD3)
    have e1 : mayE s3 f = 9 := by simp [mayE, hcr.down]
    rw [e1] at HM
    clear hD3 hC3 hL3 hcr hR e1 c6
    go_wp2_with fail
    refine HM.out.mono ?_
    rintro e w4 ⟨rfl, rfl⟩
    go_wp2_with fail
    go_ret
    exact ⟨L3, s3, ⟨9, rfl, .inl ⟨HB.out.symm, rfl, by rw [← HS1.out]; exact HCR.out⟩⟩, H3.out.mono (by omega), C3.out, L3H.out⟩
  | false =>
  cases hd : s.down with
  | true =>
    have HD := hid hd
    clear hd
    go_enter Tryd.func33, Tryd.ntmps33
    go_wp2_with fail
    refine HE.out.mono ?_
    rintro e w1 ⟨rfl, hD, hC⟩
    have H1 := hid hD
    have C1 := hid hC
    have HM := hid (may_any b base L s1 N f w1 hD)
    have e1 : mayE s1 f = 9 := by simp [mayE, HUP.out, HD.out]
    rw [e1] at HM
    clear hD hC e1
    go_wp2_with fail
    refine HM.out.mono ?_
    rintro e w4 ⟨rfl, rfl⟩
    go_wp2_with fail
    go_ret
    exact ⟨L, s1, ⟨9, rfl, .inr (.inl ⟨HB.out.symm, HD.out, rfl, HS1.out⟩)⟩, H1.out.mono (by omega), C1.out, fun _ h => .inl h⟩
  | false =>
    have HD := hid hd
    clear hd
    go_enter Tryd.func33, Tryd.ntmps33
    go_wp2_with fail
    refine HE.out.mono ?_
    rintro e w1 ⟨rfl, hD, hC⟩
    have H1 := hid hD
    have C1 := hid hC
    have HM := hid (may_any b base L s1 N f w1 hD)
    have e1 : mayE s1 f = 0 := by simp only [mayE, HUP.out, HD.out, Bool.false_eq_true, if_false]; exact if_neg (by omega)
    rw [e1] at HM
    obtain ⟨c0, -, -, c3, -, -, -⟩ := hD.cells
    have hlt := hD.d.lt
    have hfz := hD.d.frozen 3
    have hok := hD.ok.lost
    clear hD hC e1
    obtain ⟨lo, hlo⟩ : ∃ lo, lo = s1.lost := ⟨_, rfl⟩
    rw [← hlo] at c3 hok
    have HL := hid hlo
    clear hlo
    by_cases hl0 : 0 < lo
    · have HS := hid (H1.out.set 3 (.int .i64 (lo - 1)) { s1 with lost := lo - 1 } (by simp) rfl ⟨H1.out.ok.now, H1.out.ok.le, by simp only; omega, H1.out.ok.armed⟩)
      clear c0
      go_wp2_with fail
      refine HM.out.mono ?_
      rintro e w4 ⟨rfl, rfl⟩
      go_wp2_with fail
      go_ret
      exact ⟨L, _, ⟨10, rfl, .inr (.inr (.inl ⟨HB.out.symm, HD.out, by rw [← HLO.out, ← HL.out]; exact hl0, rfl, by rw [← HS1.out, ← HLO.out, ← HL.out]⟩))⟩, HS.out.1.mono (by omega), Chg.trans C1.out HS.out.2 (fun k _ h => h), fun _ h => .inl h⟩
    · obtain rfl : lo = 0 := by omega
      have hlk := H1.out.f.look hi
      unfold csF at hlk
      have hfd : (Instr.field 81 (.agg #[.string (bs (s1.fl f).1), .string (bs (s1.fl f).2)]) 0).run Tryd.prog w1 = .ok (.string (bs (s1.fl f).1)) w1 := by kernel_rfl
      have HST := hid (settle_any b base L s1 N f (s1.fl f).1 w1 H1.out hf (H1.out.ok.now f) hN)
      have HSS := hid (show stS s1 f (s1.fl f).1 = stS (endsS s) f (s.fl f).1 by rw [← HS1.out, HFL.out])
      generalize (s1.fl f).1 = t1 at *
      generalize (s1.fl f).2 = t2 at *
      clear hfz
      go_wp2_with fail
      refine HM.out.mono ?_
      rintro e w4 ⟨rfl, rfl⟩
      go_wp2_with fail
      refine HST.out.mono ?_
      rintro e w5 hR
      obtain ⟨L3, s3, ⟨rfl, hs3⟩, hD3, hC3, hL3⟩ := DRes.after C1.out (fun _ h => .inl h) hR
      have H3 := hid hD3
      have C3 := hid hC3
      have L3H := hid hL3
      have HS3 := hid hs3
      clear hD3 hC3 hL3 hs3 hR c0 c3 hlk hfd
      go_wp2_with fail
      go_ret
      exact ⟨L3, s3, ⟨0, rfl, .inr (.inr (.inr ⟨HB.out.symm, HD.out, by rw [← HLO.out, ← HL.out], rfl, HS3.out.trans HSS.out⟩))⟩, H3.out, C3.out, L3H.out⟩
end Go.Proofs.YtbefmjodpndndaaDoor
namespace Go.Proofs.YtbefmjodpndndaaDoor
open Go.RowKit Go.IntWalk

theorem slr_none {w : World} {B : Nat} {l : List Int} (h : SlR w B none l) : l = [] := by
  cases l with
  | nil => rfl
  | cons x l => obtain ⟨b, off, hA, _⟩ := h.int (k := 0) (by simp); cases hA
set_option maxRecDepth 100000 in
set_option maxHeartbeats 1000000 in
theorem sclone_own (A : Option Addr) (c : Nat) (l : List Int) (w : World) (hl : l.length ≤ 65536) (hs : SlR w w.heap.size A l) :
    Calls Tryd.prog 44 #[.slice A l.length c] w fun e w' => ∃ v, e = .returned v ∧ OwnI w' w.heap.size v l ∧ Below w.heap.size w w' := by
  have hn1 := fun W => Lib.run_eql_slice_nil (P := Tryd.prog) W 46 3 A l.length c 0 0 Tryd.underlying46
  cases A with
  | none =>
    have hl0 := slr_none hs
    subst hl0
    simp only [Option.isNone_none, List.length_nil] at hn1
    go_enter Tryd.func44, Tryd.ntmps44
    go_wp2
    go_ret
    exact ⟨_, rfl, OwnI.nil _ _, Below.refl _ _⟩
  | some ad =>
    simp only [Option.isNone_some] at hn1
    have hints := hid hs.ints
    have hcell : Hid (∀ (j : Nat) (u : Value), (l.map (Value.int .i64))[j]? = some u → w.cell? (ad.add j) = some u) := by
      intro j u hu
      have hpos : 0 < l.length := by
        cases l with
        | nil => simp at hu
        | cons x l => simp
      obtain ⟨b, off, hA, _, hc⟩ := hs.int_cells hpos
      injection hA with hA
      rw [hA]; exact hc j u hu
    have hbl : Hid (∀ (j : Nat) (u : Value), (l.map (Value.int .i64))[j]? = some u → (w.alloc (Obj.cells #[] 3)).cell? (ad.add j) = some u) := fun j u hu => by
      have := hcell.out j u hu
      rw [← this]
      exact World.cell?_alloc_lt w _ _ (by have := cell_lt this; exact this.1)
    have hown : Hid (OwnI (w.alloc (Obj.cells #[] 3)) w.heap.size (.slice (some ⟨w.heap.size, 0, none⟩) 0 0) []) := OwnI.fresh (l := []) (Blk.new w _ _) (Nat.le_refl _) (by simp)
    go_enter Tryd.func44, Tryd.ntmps44
    go_wp2_with (at_builtin; refine wp_appI _ rfl (.tmp 5) (.tmp 6) rfl w.heap.size (.slice (some ⟨w.heap.size, 0, none⟩) 0 0) [] rfl hown.out ad c l rfl hbl.out (by simp; omega) (by simp) ?_; intro v1 w1 ho1 hg1 hat1)
    clear hn1
    go_wp2
    go_ret
    refine ⟨_, rfl, by simpa using ho1, ?_⟩
    refine ((Below.refl _ w).alloc (Nat.le_refl _) _).grown hg1 (by simp) ?_
    intro k hk
    have hk' : some w.heap.size = some k := hk
    injection hk' with e
    omega

/-- The numbers for a crash anew. -/
theorem Dsk.setKeep {w : World} {base b : Nat} {L : DL} {s : DS} {N : Nat} (h : Dsk w base b L s N) {v : Value} {l : List Int} (ho : OwnI w base v l) (hl : l.length ≤ 65536) (hx : ∀ x ∈ l, I64 x) (n : Int) (hn : 0 ≤ n ∧ n ≤ 9223372036854775807) :
    Dsk ((w.setCell ⟨b, 5, none⟩ (.int .i64 n)).setCell ⟨b, 6, none⟩ v) base b { L with kv := v } { s with armed := n } N ∧ Chg w ((w.setCell ⟨b, 5, none⟩ (.int .i64 n)).setCell ⟨b, 6, none⟩ v) (fun k => k = b) := by
  have hg := gr_tr (gr_set w b 5 (.int .i64 n)) (gr_set (w.setCell ⟨b, 5, none⟩ (.int .i64 n)) b 6 v)
  obtain ⟨q, hq, hql, hqx⟩ := h.q
  obtain ⟨es, ck, hm⟩ := h.f.heap
  obtain ⟨es2, ck2, hm2⟩ := h.st.heap
  exact ⟨⟨by simpa using (h.d.set_ 5 (.int .i64 n)).set_ 6 v, h.f.at_ (hg.block _ h.f.lt (fun e => cells_ne_map h.d hm (by injection e with e; exact e.symm))), h.st.at_ (hg.block _ h.st.lt (fun e => cells_ne_map h.d hm2 (by injection e with e; exact e.symm))), ⟨q, hq.kept hg (.inr (own_blk_ne hq h.d (by decide))), hql, hqx⟩, ⟨l, ho.kept hg (.inr (own_blk_ne ho h.d (by decide))), hl, hx⟩, h.ne, h.hb, ⟨h.ok.now, h.ok.le, h.ok.lost, hn⟩⟩, Chg.of_grown hg (fun k e => by injection e)⟩
set_option maxRecDepth 100000 in
set_option maxHeartbeats 2000000 in
theorem arm_any (b base : Nat) (L : DL) (s : DS) (N : Nat) (n : Int) (A : Option Addr) (c : Nat) (l : List Int) (w : World) (h : Dsk w base b L s N) (hn : I64 n) (hl : l.length ≤ 65536) (hs : SlR w w.heap.size A l) (hbase : base ≤ w.heap.size) :
    Calls Tryd.prog 27 #[.pointer (some ⟨b, 0, none⟩), .int .i64 n, .slice A l.length c] w (DRes w base b L N fun e s' => e = .returned (.tuple #[]) ∧ s' = { s with armed := max n 0 }) := by
  have HC := hid (sclone_own A c l w hl hs)
  have HI := hid hs.ints
  have HL := hid hl
  have H := hid h
  obtain ⟨m, hm⟩ : ∃ m : Int, max n 0 = m := ⟨_, rfl⟩
  have HM := hid (show 0 ≤ m ∧ m ≤ 9223372036854775807 by obtain ⟨h1, h2⟩ := hn; omega)
  rw [hm]
  clear hs hl h hn
  go_enter Tryd.func27, Tryd.ntmps27
  go_wp2_with fail
  refine HC.out.mono ?_
  rintro e w1 ⟨v, rfl, ho, hB⟩
  have B1 := hid hB
  have H1 := hid (H.out.below hB)
  have HV := hid (World.ownsRow.lt ho)
  have HO := hid (own_base ho hbase)
  obtain ⟨Av, mv, cv, rfl⟩ : ∃ A m c, v = .slice A m c := by obtain ⟨A, c, e⟩ := own_form ho; exact ⟨A, _, c, e⟩
  obtain ⟨v, hv⟩ : ∃ v, v = Value.slice Av mv cv := ⟨_, rfl⟩
  rw [← hv] at HO HV
  have HVV := hid hv
  have HS := hid (H1.out.setKeep HO.out HL.out HI.out m HM.out)
  have c5 := H1.out.d.cell 5; have c6 := H1.out.d.cell 6; have hlt := H1.out.d.lt; have hfz := H1.out.d.frozen
  simp at c5 c6
  obtain ⟨kk, hkk⟩ : ∃ kk, kk = L.kv := ⟨_, rfl⟩
  rw [← hkk] at c6
  clear ho hB hv hkk
  go_wp2_with fail
  rw [← HVV.out]
  go_end0
  refine ⟨_, _, ⟨rfl, rfl⟩, HS.out.1, Chg.trans (Chg.of_below B1.out (DFP b L)) HS.out.2 (fun k _ e => .inl e), fun k hk => ?_⟩
  rcases hk with h | h | h | h | h
  · exact .inl (.inl h)
  · exact .inl (.inr (.inl h))
  · exact .inl (.inr (.inr (.inl h)))
  · exact .inl (.inr (.inr (.inr (.inl h))))
  · exact .inr (HV.out k h).1
def ds0 : DS := { fl := fun _ => ([], []), lost := 0, down := false, armed := 0 }
theorem ds0_ok : ds0.Ok := ⟨fun _ => by simp [ds0], fun _ => by simp [ds0], by simp [ds0], by simp [ds0]⟩
set_option maxRecDepth 100000 in
set_option maxHeartbeats 2000000 in
theorem dnew_any (w : World) : Calls Tryd.prog 8 #[] w fun e w' => ∃ b L, e = .returned (.pointer (some ⟨b, 0, none⟩)) ∧ Dsk w' w.heap.size b L ds0 0 ∧ Below w.heap.size w w' := by
  have hmm := @run_makeMap Tryd.prog
  go_enter Tryd.func8, Tryd.ntmps8
  go_wp2_with fail
  go_ret
  have b1 : Below w.heap.size w (w.alloc (.map #[] 0)) := by (repeat (first | exact Below.refl _ _ | assumption | refine below_drewN ?_ _ | refine Below.drew ?_ | refine Below.alloc ?_ (by (try simp); (try omega)) _ | refine Below.setCell ?_ (by (try simp); (try omega)) _))
  have e1 : (w.alloc (.map #[] 0)).heap.size = w.heap.size + 1 := by simp
  have e2 : ((w.alloc (.map #[] 0)).alloc (.map #[] 0)).heap.size = w.heap.size + 1 + 1 := by simp
  have f1 := FOwn.made w
  have s2 := SOwn.made (w.alloc (.map #[] 0))
  rw [e1] at s2
  refine ⟨w.heap.size + 1 + 1, ⟨w.heap.size, w.heap.size + 1, .slice none 0 0, .slice none 0 0⟩, rfl, ⟨Blk.new_at (by simp), ?_, ?_, ⟨[], RK.Own.nil, by simp, by simp⟩, ⟨[], OwnI.nil _ _, by simp, by simp⟩, by simp only; omega, ⟨by omega, by simp only; omega, by simp only; omega⟩, ds0_ok⟩, by (repeat (first | exact Below.refl _ _ | assumption | refine below_drewN ?_ _ | refine Below.drew ?_ | refine Below.alloc ?_ (by (try simp); (try omega)) _ | refine Below.setCell ?_ (by (try simp); (try omega)) _))⟩
  · exact f1.at_ (by rw [Below.heap_alloc _ _ _ (by rw [e2]; omega), Below.heap_alloc _ _ _ (by rw [e1]; omega)])
  · exact s2.at_ (by rw [Below.heap_alloc _ _ _ (by rw [e2]; omega)])
end Go.Proofs.YtbefmjodpndndaaDoor
namespace Go.Proofs.YtbefmjodpndndaaDoor
open Go.RowKit Go.IntWalk

/-- What a file holds, now or after a crash. -/
def Poss (s : DS) (f : Int) (c : Bs) : Prop := c = (s.fl f).1 ∨ Mix (s.fl f).2 (s.fl f).1 c
/-- No more is possible than was. -/
def Shr (s s' : DS) : Prop := ∀ f c, Poss s' f c → Poss s f c
theorem Shr.refl (s : DS) : Shr s s := fun _ _ h => h
theorem Shr.trans {a b c : DS} (h : Shr a b) (h' : Shr b c) : Shr a c := fun f x hx => h f x (h' f x hx)
theorem Shr.of_fl {s s' : DS} (h : s'.fl = s.fl) : Shr s s' := fun f c hc => by unfold Poss at *; rwa [h] at hc
theorem Shr.crash {s s' : DS} (h : CrashR s s') : Shr s s' := by
  cases hd : s.down with
  | true => rw [h.2.1 hd]; exact Shr.refl s
  | false =>
    obtain ⟨-, -, hf⟩ := h.2.2 hd
    intro f c hc
    obtain ⟨h1, h2⟩ := hf f
    rcases hc with rfl | hc
    · exact .inr h1
    · rw [h2] at hc
      rw [hc.same]
      exact .inr h1
theorem Shr.settle (s : DS) (f : Int) : Shr s (stS s f (s.fl f).1) := by
  intro g c hc
  unfold Poss stS at hc
  simp only at hc
  split at hc
  · rename_i e
    subst e
    rcases hc with rfl | hc
    · exact .inl rfl
    · exact .inl hc.same
  · exact hc
def Calm (s : DS) : Prop := s.armed = 0 ∧ s.lost = 0 ∧ s.down = false
theorem calm_ends {s : DS} (h : Calm s) : endsB s = false ∧ endsS s = s := by
  unfold endsB endsS
  rw [h.1]
  simp
/-- Sync, for what is possible. -/
theorem SyR.spec {s s' : DS} {f e : Int} (h : SyR s f e s') : Shr s s' ∧ (e = 0 ∨ e = 9 ∨ e = 10) ∧ (e = 0 → s.down = false ∧ s'.down = false ∧ s'.fl = fun y => if y = f then ((s.fl f).1, (s.fl f).1) else s.fl y) ∧ (Calm s → e = 0 ∧ Calm s') := by
  have hE : Shr s (endsS s) := Shr.of_fl (endsS_fl s)
  rcases h with ⟨h1, rfl, h3⟩ | ⟨h1, h2, rfl, rfl⟩ | ⟨h1, h2, h3, rfl, rfl⟩ | ⟨h1, h2, h3, rfl, rfl⟩
  · exact ⟨hE.trans (Shr.crash h3), by simp, fun h => by simp at h, fun h => by rw [(calm_ends h).1] at h1; simp at h1⟩
  · exact ⟨hE, by simp, fun h => by simp at h, fun h => by rw [h.2.2] at h2; simp at h2⟩
  · exact ⟨Shr.of_fl (endsS_fl s), by simp, fun h => by simp at h, fun h => by rw [h.2.1] at h3; omega⟩
  · refine ⟨?_, by simp, fun _ => ⟨h2, by unfold stS; simp only; rw [endsS_down]; exact h2, by unfold stS; simp only; rw [endsS_fl]⟩, fun h => ⟨rfl, ?_⟩⟩
    · have := Shr.settle (endsS s) f
      rw [endsS_fl] at this
      exact hE.trans this
    · rw [(calm_ends h).2]
      exact h
/-- Write, for what is possible. -/
theorem WrR.spec {s s' : DS} {f e : Int} {p : Nat} {t : Bs} (h : WrR s f p t e s') (hd : s.down = false) : (e = 0 ∨ e = 9) ∧ (e = 0 → s'.down = false ∧ s'.fl = (wrS s f p t).fl) ∧ Shr (wrS s f p t) s' ∧ (Calm s → e = 0 ∧ Calm s') := by
  have hw : (wrS (endsS s) f p t).fl = (wrS s f p t).fl := by unfold wrS; simp only; rw [endsS_fl]
  have hdw : (wrS (endsS s) f p t).down = false := by unfold wrS; simp only; rw [endsS_down]; exact hd
  rcases h with ⟨h1, h2, rfl, rfl⟩ | ⟨h1, h2, rfl, rfl⟩ | ⟨h1, h2, rfl, h3⟩
  · rw [hd] at h2; cases h2
  · exact ⟨.inl rfl, fun _ => ⟨hdw, hw⟩, Shr.of_fl hw, fun h => ⟨rfl, by rw [(calm_ends h).2]; exact h⟩⟩
  · exact ⟨.inr rfl, fun h => by simp at h, (Shr.of_fl hw).trans (Shr.crash h3), fun h => by rw [(calm_ends h).1] at h1; simp at h1⟩
/-- A header. -/
def hdr (slot n : Nat) : Bs := [UInt8.ofNat slot, UInt8.ofNat n, UInt8.ofNat (n / 256), UInt8.ofNat (n / 65536), UInt8.ofNat (n / 16777216)]
def offs (slot : Nat) : Nat := if slot = 1 then 64 else 131072
/-- What a cell says: the slot (0: none), the value. -/
def CellSays (c : Bs) (slot : Nat) (v : Bs) : Prop := (slot = 0 ∧ v = [] ∧ c.getD 0 0 = 0) ∨ ((slot = 1 ∨ slot = 2) ∧ v.length ≤ 65536 ∧ Has c 0 (hdr slot v.length) ∧ Has c (offs slot) v)
def nslot (slot : Nat) : Nat := if slot = 1 then 2 else 1
theorem nslot_or (slot : Nat) : nslot slot = 1 ∨ nslot slot = 2 := by unfold nslot; split <;> simp
theorem offs_ge (slot : Nat) : 64 ≤ offs slot := by unfold offs; split <;> omega
theorem hdr_len (a b : Nat) : (hdr a b).length = 5 := rfl
theorem offs_apart {slot : Nat} {v v' : Bs} (h : slot = 1 ∨ slot = 2) (hv : v.length ≤ 65536) (hv' : v'.length ≤ 65536) : offs (nslot slot) + v'.length ≤ offs slot ∨ offs slot + v.length ≤ offs (nslot slot) := by
  rcases h with rfl | rfl <;> simp [offs, nslot] <;> omega
/-- The other slot's bytes are written: what the cell says stays. -/
theorem says_other {c : Bs} {slot : Nat} {v v' : Bs} (h : CellSays c slot v) (hv' : v'.length ≤ 65536) : CellSays (putL c (offs (nslot slot)) v') slot v := by
  rcases h with ⟨h1, h2, h3⟩ | ⟨h1, h2, h3, h4⟩
  · refine .inl ⟨h1, h2, ?_⟩
    have := offs_ge (nslot slot)
    rw [putL_get, if_neg (by omega)]
    exact h3
  · have := offs_ge (nslot slot)
    exact .inr ⟨h1, h2, h3.put_other (.inr (by rw [hdr_len]; omega)), h4.put_other (offs_apart h1 h2 hv')⟩
/-- What is said by what is durable and by what holds now is said by what is left. -/
theorem says_mix {last now c : Bs} {slot : Nat} {v : Bs} (hle : last.length ≤ now.length) (hm : Mix last now c) (h1 : CellSays last slot v) (h2 : CellSays now slot v) : CellSays c slot v := by
  rcases h1 with ⟨a1, a2, a3⟩ | ⟨a1, a2, a3, a4⟩ <;> rcases h2 with ⟨b1, b2, b3⟩ | ⟨b1, b2, b3, b4⟩
  · exact .inl ⟨a1, a2, by rcases hm.get 0 with e | e <;> rw [e] <;> assumption⟩
  · omega
  · omega
  · exact .inr ⟨a1, a2, hm.has hle a3 b3, hm.has hle a4 b4⟩
/-- The header is written, the value being durable. -/
theorem says_header {c : Bs} {slot : Nat} {v' : Bs} (h : slot = 1 ∨ slot = 2) (hv' : v'.length ≤ 65536) (hc : Has c (offs slot) v') : CellSays (putL c 0 (hdr slot v'.length)) slot v' :=
  .inr ⟨h, hv', Has.put _ _ _ (fun _ => Nat.zero_le _), hc.put_other (.inl (by rw [hdr_len]; have := offs_ge slot; omega))⟩
/-- What is left of the header is the old one or the new one. -/
theorem says_torn {c x : Bs} {slot : Nat} {v v' : Bs} (h : CellSays c slot v) (hv' : v'.length ≤ 65536) (hc : Has c (offs (nslot slot)) v') (hm : Mix c (putL c 0 (hdr (nslot slot) v'.length)) x) : CellSays x slot v ∨ CellSays x (nslot slot) v' := by
  have hle := putL_ge c 0 (hdr (nslot slot) v'.length)
  have hn := says_header (nslot_or slot) hv' hc
  rcases hm.head hle with hb | hb
  · left
    rcases h with ⟨h1, h2, h3⟩ | ⟨h1, h2, h3, h4⟩
    · exact .inl ⟨h1, h2, by rw [hb 0 (by omega)]; exact h3⟩
    · refine .inr ⟨h1, h2, ⟨Nat.le_trans h3.1 (hm.len hle).1, fun i hi => ?_⟩, hm.has hle h4 (h4.put_other (.inl (by rw [hdr_len]; have := offs_ge slot; omega)))⟩
      rw [hdr_len] at hi
      rw [Nat.zero_add, hb i (by omega), ← h3.2 i hi, Nat.zero_add]
  · right
    rcases hn with ⟨h1, _, _⟩ | ⟨h1, h2, h3, h4⟩
    · rcases nslot_or slot with e | e <;> omega
    · refine .inr ⟨h1, h2, ⟨?_, fun i hi => ?_⟩, hm.has hle hc h4⟩
      · have := (hm.len hle).1
        have := hc.1
        have := offs_ge (nslot slot)
        rw [hdr_len]; omega
      · rw [hdr_len] at hi
        rw [Nat.zero_add, hb i (by omega), ← h3.2 i hi, Nat.zero_add]
end Go.Proofs.YtbefmjodpndndaaDoor
namespace Go.Proofs.YtbefmjodpndndaaDoor
open Go.RowKit Go.IntWalk

/-- A row of bytes of the call's own. -/
def OwnU (w : World) (base : Nat) (v : Value) (l : Bs) : Prop := w.ownsRow base 5 1 v l.length (bcs l)
theorem wp_appU {ops : Array Oper} {rest : List Oper} {o : Oper} {a : Act} {Q : Exit → Act → World → Prop} (w : World) (hgd : o.guard = none) (s x : Operand) (ho : o.op = .call { callee := .builtin .append, args := #[s, x], argTypes := #[29, 29] })
    (base : Nat) (v : Value) (l : Bs) (hs : a.eval s = v) (hown : OwnU w base v l) (ad : Addr) (c : Nat) (y : UInt8) (hx : a.eval x = .slice (some ad) 1 c)
    (hcell : w.cell? ad = some (.int .u8 (y.toNat : Int))) (hlen : l.length ≤ 1000000) (hbase : base ≤ w.heap.size)
    (h : ∀ v' w', OwnU w' base v' (l ++ [y]) → w.grownBy w' v.ownBlock → wpList Tryd.prog ops Q rest (a.put o.dst v') w') : wpList Tryd.prog ops Q (o :: rest) a w := by
  obtain ⟨i0, hi, hz0, hz1, hz2⟩ := info_parts infoU8
  refine wpList_append_own_at w hgd s x 29 ho base 5 i0 _ 1 1 Tryd.underlying29 hi hz0 hz1 hz2 rfl (by omega) v l.length _ hs hown ad 1 c (bcs [y]) hx (by simp [bcs]) (fun j u hu => by
    match j, hu with
    | 0, hu => simp only [bcs, List.map_cons, List.map_nil, List.getElem?_cons_zero, Option.some.injEq] at hu; rw [← hu]; simpa [Addr.add] using hcell
    | j + 1, hu => simp [bcs] at hu) (by intro u hu; simp [bcs] at hu; subst hu; rfl) (by unfold maxLen; omega) (by omega) hbase ?_
  intro v' w' h1 h2 _ _
  refine h v' w' ?_ h2
  unfold OwnU
  rw [List.length_append, bcs_app]
  exact h1
theorem u8_wrap (n : Nat) : IntKind.u8.wrap (n : Int) = ((UInt8.ofNat n).toNat : Int) := by
  simp [IntKind.wrap, IntKind.bits, IntKind.signed, UInt8.toNat_ofNat']
def mkN (n : Nat) : Nat → Nat
  | 0 => n
  | k + 1 => mkN n k / 256
theorem hdr_take (slot n k : Nat) (hk : k < 4) : (hdr slot n).take (k + 2) = (hdr slot n).take (k + 1) ++ [UInt8.ofNat (mkN n k)] := by
  have : k = 0 ∨ k = 1 ∨ k = 2 ∨ k = 3 := by omega
  rcases this with rfl | rfl | rfl | rfl <;> simp [hdr, mkN, Nat.div_div_eq_div_mul]
def slLen : Value → Nat
  | .slice _ n _ => n
  | _ => 0
set_option maxRecDepth 100000 in
set_option maxHeartbeats 2000000 in
theorem header_any (slot : Nat) (s : Bs) (w : World) (hs : slot ≤ 2) (hl : s.length ≤ 65536) :
    Calls Tryd.prog 66 #[.int .i64 (slot : Int), .string (bs s)] w fun e w' => e = .returned (.string (bs (hdr slot s.length))) ∧ Below w.heap.size w w' := by
  have hsz := bs_size s
  obtain ⟨n, hn⟩ : ∃ n, n = s.length := ⟨_, rfl⟩
  rw [← hn] at hsz hl ⊢
  clear hn
  go_enter Tryd.func66, Tryd.ntmps66
  go_upto_region 2 with fail
  obtain ⟨w1, hw1⟩ : ∃ w1, w1 = w.alloc (Obj.cells #[Value.int .u8 (slot : Int)] 5) := ⟨_, rfl⟩
  have B1 := hid (show Below w.heap.size w w1 by rw [hw1]; (repeat (first | exact Below.refl _ _ | assumption | refine below_drewN ?_ _ | refine Below.drew ?_ | refine Below.alloc ?_ (by (try simp); (try omega)) _ | refine Below.setCell ?_ (by (try simp); (try omega)) _)))
  have O1 := hid (show OwnU w1 w.heap.size (.slice (some ⟨w.heap.size, 0, none⟩) 1 1) ((hdr slot n).take 1) from by
    refine ⟨rfl, .inr ⟨w.heap.size, 1, #[Value.int .u8 (slot : Int)], rfl, Nat.le_refl _, by rw [hw1]; exact Blk.new w _ _, Nat.le_refl _, by unfold maxLen; omega, rfl, by simp [bcs, hdr, UInt8.toNat_ofNat']; omega⟩⟩)
  rw [← hw1]
  clear hw1
  go_wp2_with fail
  go_loopw [5, 6] (fun bv nv wr => ∃ (k : Nat) (A : Option Addr) (c : Nat), k ≤ 4 ∧ bv = .slice A (k + 1) c ∧ nv = .int .i64 (mkN n k : Nat) ∧ OwnU wr w.heap.size (.slice A (k + 1) c) ((hdr slot n).take (k + 1)) ∧ Below w.heap.size w wr) (fun bv _ _ => 5 - slLen bv)
  case atStart => exact ⟨0, _, _, by omega, rfl, rfl, O1.out, B1.out⟩
  case round =>
    clear O1 B1
    obtain ⟨k, A, c, hk, rfl, rfl, hO, hB⟩ := hrel
    have HO := hid hO
    have HB := hid hB
    clear hO hB
    by_cases hlt : k < 4
    case neg =>
      obtain rfl : k = 4 := by omega
      have hO := HO.out
      have ht : (hdr slot n).take (4 + 1) = hdr slot n := rfl
      rw [ht] at hO
      obtain ⟨g, cap, cur, hv, -, hb, hc, -, hcc⟩ := own_cell hO (by rw [hdr_len]; omega)
      injection hv with hA e1 e2
      subst hA
      clear e1 e2
      have hcv := run_convert_bytes_back (P := Tryd.prog) wr 29 9 5 ⟨g, 0, none⟩ c (hdr slot n) Tryd.underlying29 Tryd.underlying5 Tryd.underlying9 (fun j hj => by
        rw [addr_at, Nat.zero_add, hb.cell, hcc j (by rw [Nat.mul_one]; exact hj)]
        simp [bcs, hj])
      rw [hdr_len, ← show bs (hdr slot n) = ⟨(hdr slot n).toArray⟩ from rfl] at hcv
      clear hO ht hb hc hcc
      go_wp2_with fail
      go_ret
      exact ⟨rfl, HB.out⟩
    case pos =>
    obtain ⟨m, hm⟩ : ∃ m, m = mkN n k := ⟨_, rfl⟩
    rw [← hm]
    have HM := hid hm
    clear hm
    have hlI : (k : Int) + 1 < 5 := by omega
    have BA := hid (show Below wr.heap.size wr (wr.alloc (Obj.cells #[Value.int .u8 ((m : Int) % 256)] 5)) by (repeat (first | exact Below.refl _ _ | assumption | refine below_drewN ?_ _ | refine Below.drew ?_ | refine Below.alloc ?_ (by (try simp); (try omega)) _ | refine Below.setCell ?_ (by (try simp); (try omega)) _)))
    have HOA := hid (show OwnU (wr.alloc (Obj.cells #[Value.int .u8 ((m : Int) % 256)] 5)) w.heap.size (.slice A (k + 1) c) ((hdr slot n).take (k + 1)) from own_kept HO.out (fun g cs _ hb => hb.below BA.out hb.lt))
    have hcA := hid (show (wr.alloc (Obj.cells #[Value.int .u8 ((m : Int) % 256)] 5)).cell? ⟨wr.heap.size, 0, none⟩ = some (.int .u8 ((UInt8.ofNat m).toNat : Int)) from by
      rw [(Blk.new wr 5 #[Value.int .u8 ((m : Int) % 256)]).cell]
      simp [UInt8.toNat_ofNat'])
    have hbA := hid (show w.heap.size ≤ (wr.alloc (Obj.cells #[Value.int .u8 ((m : Int) % 256)] 5)).heap.size from Nat.le_trans HB.out.size BA.out.size)
    go_wp2_with (first
      | (at_builtin; refine wp_appU _ rfl (.tmp 17) (.tmp 20) rfl w.heap.size _ _ rfl HOA.out ⟨wr.heap.size, 0, none⟩ 1 (UInt8.ofNat m) rfl hcA.out (by simp only [List.length_take, hdr_len]; omega) hbA.out ?_; intro v' w2 hO2 hg2)
      | go_in)
    have hB2 : Below w.heap.size w w2 := by
      have b1 := HB.out.trans (BA.out.mono HB.out.size)
      refine ⟨hg2.os.trans b1.os, hg2.tape.trans b1.tape, hg2.output.trans b1.output, Nat.le_trans b1.size hg2.size, fun q hq => (hg2.block q (Nat.lt_of_lt_of_le hq b1.size) (fun e => ?_)).trans (b1.block q hq)⟩
      have := (World.ownsRow.lt HOA.out q e.symm).1
      omega
    rw [HM.out, ← hdr_take slot n k hlt] at hO2
    obtain ⟨A2, c2, hv2⟩ := own_form hO2
    have hl2 : ((hdr slot n).take (k + 2)).length = k + 2 := by rw [List.length_take, hdr_len]; omega
    rw [hl2] at hv2
    subst hv2
    exact ⟨⟨k + 1, A2, c2, by omega, rfl, by rw [HM.out]; simp only [mkN]; congr 1, hO2, hB2⟩, by simp only [slLen]; omega⟩
end Go.Proofs.YtbefmjodpndndaaDoor
namespace Go.Proofs.YtbefmjodpndndaaDoor
open Go.RowKit Go.IntWalk

/-- Block cb is a cell. -/
def Cel (w : World) (cb b : Nat) (f : Int) (slot : Nat) (v : Bs) (sure : Bool) : Prop := Blk w cb 86 #[.pointer (some ⟨b, 0, none⟩), .int .i64 f, .int .i64 (slot : Int), .string (bs v), .bool sure]
/-- The offsets of the slots. -/
def OffE (w : World) : Prop := w.cell? ⟨0, 0, none⟩ = some (.int .i64 0) ∧ w.cell? ⟨0, 1, none⟩ = some (.int .i64 64) ∧ w.cell? ⟨0, 2, none⟩ = some (.int .i64 131072)
theorem OffE.lt {w : World} (h : OffE w) : 0 < w.heap.size := by
  rcases Nat.lt_or_ge 0 w.heap.size with h' | h'
  · exact h'
  · have := h.1
    simp [World.cell?, Array.getElem?_eq_none h'] at this
theorem OffE.chg {w w' : World} {S : Nat → Prop} (h : OffE w) (hc : Chg w w' S) (hS : ¬ S 0) : OffE w' := ⟨(chg_cell hc h.lt hS).trans h.1, (chg_cell hc h.lt hS).trans h.2.1, (chg_cell hc h.lt hS).trans h.2.2⟩
set_option maxRecDepth 100000 in
theorem cget_any (cb b : Nat) (f : Int) (slot : Nat) (v : Bs) (sure : Bool) (w : World) (h : Cel w cb b f slot v sure) :
    Calls Tryd.prog 48 #[.pointer (some ⟨cb, 0, none⟩)] w fun e w' => e = .returned (.tuple #[.string (bs v), .bool (decide (0 < slot))]) ∧ Below w.heap.size w w' := by
  have H := hid (show Blk w cb 86 #[.pointer (some ⟨b, 0, none⟩), .int .i64 f, .int .i64 (slot : Int), .string (bs v), .bool sure] from h)
  clear h
  have Hd := hid H.out.drew
  have HSF := hid (fun (wq : World) (hq : wq = w.drew) => show wq.cell? ⟨cb, 2, none⟩ = some (.int .i64 (slot : Int)) ∧ wq.cell? ⟨cb, 3, none⟩ = some (.string (bs v)) ∧ cb < wq.heap.size from by rw [hq]; exact ⟨Hd.out.cell 2, Hd.out.cell 3, Hd.out.lt⟩)
  have HB := hid ((Below.refl w.heap.size w).drew)
  go_enter Tryd.func48, Tryd.ntmps48
  go_upto_region 1 with fail
  refine wpIn_wide.1 (wpIn_region_S (n := 0) (fun wq => wq = w.drew) [] (by kernel_rfl) rfl (fun hHeld => ?_))
  generalize hwd : w.drew = wd at *
  clear hwd
  refine wpAnyS_pure 0 (v := ?_) (fun _ => trivial) (by simp only [List.getElem?_toArray, List.getElem?_cons_succ, List.getElem?_cons_zero]; rfl) (by kernel_rfl) (fun _ _ _ _ _ h => h) ⟨rfl, (by intro c h; cases h), ?_⟩ hHeld ?_
  rotate_left
  focus (intro wS hSw; (try replace hSw := HSF.out wS hSw); (try dsimp only at hSw); go_simp; (try with_reducible rfl))
  (try simp only [Act.put, List.setIfInBounds_toArray, List.set_cons_zero, List.set_cons_succ])
  refine wpAnyS_pure 1 (v := ?_) (fun _ => trivial) (by simp only [List.getElem?_toArray, List.getElem?_cons_succ, List.getElem?_cons_zero]; rfl) (by kernel_rfl) (fun _ _ _ _ _ h => h) ⟨rfl, (by intro c h; cases h), ?_⟩ hHeld ?_
  rotate_left
  focus (intro wS hSw; (try replace hSw := HSF.out wS hSw); (try dsimp only at hSw); go_simp; (try with_reducible rfl))
  (try simp only [Act.put, List.setIfInBounds_toArray, List.set_cons_zero, List.set_cons_succ])
  refine wpAnyS_pure 2 (v := ?_) (fun _ => trivial) (by simp only [List.getElem?_toArray, List.getElem?_cons_succ, List.getElem?_cons_zero]; rfl) (by kernel_rfl) (fun _ _ _ _ _ h => h) ⟨rfl, (by intro c h; cases h), ?_⟩ hHeld ?_
  rotate_left
  focus (intro wS hSw; (try replace hSw := HSF.out wS hSw); (try dsimp only at hSw); go_simp; (try with_reducible rfl))
  (try simp only [Act.put, List.setIfInBounds_toArray, List.set_cons_zero, List.set_cons_succ])
  refine wpAnyS_take 3 (v := ?_) (fun _ => trivial) (by simp only [List.getElem?_toArray, List.getElem?_cons_succ, List.getElem?_cons_zero]; rfl) (by kernel_rfl) (fun _ _ _ _ _ h => h) ⟨rfl, (by intro c h; cases h), ?_⟩ hHeld ?_
  rotate_left
  focus (intro wS hSw; (try replace hSw := HSF.out wS hSw); (try dsimp only at hSw); go_simp; (try with_reducible rfl))
  (try simp only [Act.put, List.setIfInBounds_toArray, List.set_cons_zero, List.set_cons_succ])
  refine wpAnyS_pure 4 (v := ?_) (fun _ => trivial) (by simp only [List.getElem?_toArray, List.getElem?_cons_succ, List.getElem?_cons_zero]; rfl) (by kernel_rfl) (fun _ _ _ _ _ h => h) ⟨rfl, (by intro c h; cases h), ?_⟩ hHeld ?_
  rotate_left
  focus (intro wS hSw; (try replace hSw := HSF.out wS hSw); (try dsimp only at hSw); go_simp; (try with_reducible rfl))
  (try simp only [Act.put, List.setIfInBounds_toArray, List.set_cons_zero, List.set_cons_succ])
  refine wpAnyS_pure 5 (v := ?_) (fun _ => trivial) (by simp only [List.getElem?_toArray, List.getElem?_cons_succ, List.getElem?_cons_zero]; rfl) (by kernel_rfl) (fun _ _ _ _ _ h => h) ⟨rfl, (by intro c h; cases h), ?_⟩ hHeld ?_
  rotate_left
  focus (intro wS hSw; (try replace hSw := HSF.out wS hSw); (try dsimp only at hSw); go_simp; (try with_reducible rfl))
  (try simp only [Act.put, List.setIfInBounds_toArray, List.set_cons_zero, List.set_cons_succ])
  refine wpAnyS_pure 6 (v := ?_) (fun _ => trivial) (by simp only [List.getElem?_toArray, List.getElem?_cons_succ, List.getElem?_cons_zero]; rfl) (by kernel_rfl) (fun _ _ _ _ _ h => h) ⟨rfl, (by intro c h; cases h), ?_⟩ hHeld ?_
  rotate_left
  focus (intro wS hSw; (try replace hSw := HSF.out wS hSw); (try dsimp only at hSw); go_simp; (try with_reducible rfl))
  (try simp only [Act.put, List.setIfInBounds_toArray, List.set_cons_zero, List.set_cons_succ])
  refine wpAnyS_take 7 (v := ?_) (fun _ => trivial) (by simp only [List.getElem?_toArray, List.getElem?_cons_succ, List.getElem?_cons_zero]; rfl) (by kernel_rfl) (fun _ _ _ _ _ h => h) ⟨rfl, (by intro c h; cases h), ?_⟩ hHeld ?_
  rotate_left
  focus (intro wS hSw; (try replace hSw := HSF.out wS hSw); (try dsimp only at hSw); go_simp; (try with_reducible rfl))
  (try simp only [Act.put, List.setIfInBounds_toArray, List.set_cons_zero, List.set_cons_succ])
  refine wpAnyS_pure 8 (v := ?_) (fun _ => trivial) (by simp only [List.getElem?_toArray, List.getElem?_cons_succ, List.getElem?_cons_zero]; rfl) (by kernel_rfl) (fun _ _ _ _ _ h => h) ⟨rfl, (by intro c h; cases h), ?_⟩ hHeld ?_
  rotate_left
  focus (intro wS hSw; (try replace hSw := HSF.out wS hSw); (try dsimp only at hSw); go_simp; (try with_reducible rfl))
  (try simp only [Act.put, List.setIfInBounds_toArray, List.set_cons_zero, List.set_cons_succ])
  refine wpAnyS_pure 9 (v := ?_) (fun _ => trivial) (by simp only [List.getElem?_toArray, List.getElem?_cons_succ, List.getElem?_cons_zero]; rfl) (by kernel_rfl) (fun _ _ _ _ _ h => h) ⟨rfl, (by intro c h; cases h), ?_⟩ hHeld ?_
  rotate_left
  focus (intro wS hSw; (try replace hSw := HSF.out wS hSw); (try dsimp only at hSw); go_simp; (try with_reducible rfl))
  (try simp only [Act.put, List.setIfInBounds_toArray, List.set_cons_zero, List.set_cons_succ])
  refine wpAnyS_pure 10 (v := ?_) (fun _ => trivial) (by simp only [List.getElem?_toArray, List.getElem?_cons_succ, List.getElem?_cons_zero]; rfl) (by kernel_rfl) (fun _ _ _ _ _ h => h) ⟨rfl, (by intro c h; cases h), ?_⟩ hHeld ?_
  rotate_left
  focus (intro wS hSw; (try replace hSw := HSF.out wS hSw); (try dsimp only at hSw); go_simp; (try with_reducible rfl))
  (try simp only [Act.put, List.setIfInBounds_toArray, List.set_cons_zero, List.set_cons_succ])
  refine wpAnyS_done (by kernel_rfl) ?_
  clear HSF hHeld
  go_wp2_with fail
  go_ret2
  exact ⟨by simp, HB.out⟩
end Go.Proofs.YtbefmjodpndndaaDoor
