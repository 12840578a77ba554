
/- Lease: a packet that is surely sent; an arrival that keeps the call's own notes; Has. -/
import Derived.Test.YtappgjdnfllblaaDoorLeaTb
set_option linter.unusedSimpArgs false
set_option linter.unusedVariables false
namespace Go.Proofs.YtappgjdnfllblaaDoor
open Go.RowKit Go.IntWalk Go.Maps Go.WideMaps
theorem kt_net {w w' : World} {base nn : Nat} {v : Value} {F : List Pk} {sp : Int} (C : Chg w w' (NetS nn v)) (N : Nt w base nn v F sp) : KT [26] w w' := by
  intro g t cs ht hb
  have ht : t = 26 := by simpa using ht
  subst ht
  refine C.blk hb (fun e => ?_)
  rcases e with rfl | e
  · exact Blk.ne_ hb N.d (by decide) rfl
  · exact own_blk_ne N.r hb (by decide) e
theorem kt_map {w w' : World} {q : Nat} (h : ∀ (g : Nat) (t : TypeId) (cs : Array Value), Blk w g t cs → g ≠ q) (hg : w.grownBy w' (some q)) : KT [26] w w' :=
  fun g t cs _ hb => hb.grown hg (fun e => by injection e with e; exact h g t cs hb e)
set_option maxRecDepth 100000 in
set_option maxHeartbeats 1000000 in
theorem nsend_ok {w : World} {base nn : Nat} {v : Value} {F : List Pk} {sp : Int} (h : Nt w base nn v F sp) (hsp : sp = 0) (hF : F.length < 500) (hbs : base ≤ w.heap.size) (a b : Int) (s : ByteArray) (hab : Ends a b) :
    Calls Tryd.prog 45 #[.pointer (some ⟨nn, 0, none⟩), .int .i64 a, .int .i64 b, .string s] w (NtRes w base nn v (F ++ [(a, b, s)]) sp (fun x => x = .int .i64 0)) := by
  have H := hid h
  obtain ⟨A, c, rfl, _, _, _⟩ := pk_row h.r
  have ha : a = 0 ∨ a = 1 := by rcases hab with ⟨rfl, _⟩ | ⟨rfl, _⟩ <;> simp
  have hb : b = 0 ∨ b = 1 := by rcases hab with ⟨_, rfl⟩ | ⟨_, rfl⟩ <;> simp
  have hne : (a == b) = false := by rcases hab with ⟨rfl, rfl⟩ | ⟨rfl, rfl⟩ <;> rfl
  have HA := hid ha; have HB := hid hb; have HAB := hid hab
  clear h ha hb hab
  go_enter Tryd.func45, Tryd.ntmps45
  go_wp2_with fail
  refine (end_yes a HA.out _).mono ?_
  rintro e w1 ⟨rfl, rfl⟩
  go_wp2_with fail
  refine (end_yes b HB.out _).mono ?_
  rintro e w1 ⟨rfl, rfl⟩
  go_wp2_with fail
  refine (nhear_any H.out (.inl hsp) a b HAB.out).mono ?_
  rintro e w1 ⟨rfl, hB1⟩
  subst hsp
  have H1 := hid (H.out.below hB1)
  obtain ⟨d0, d1⟩ := nt2 H1.out
  have hz := H1.out.d.lt
  have h5' : ¬ (500 : Int) ≤ (F.length : Int) := by omega
  have H2 := hid (H1.out.alloc (Obj.cells (pkv (a, b, s)) 106))
  have hnw := hid (pk_news (p := (a, b, s)) (Blk.new w1 106 (pkv (a, b, s))))
  have f0 := H1.out.d.frozen 0
  have hbz := hid (show base ≤ (w1.alloc (Obj.cells (pkv (a, b, s)) 106)).heap.size by have := hB1.size; simp; omega)
  have hlen := hid (show F.length + 1 ≤ 1000000 by omega)
  have hB1' := hid hB1
  clear hB1 hF hbs
  go_wp2_with (at_builtin; refine wp_appPk _ rfl (.tmp 40) (.tmp 45) rfl base _ F rfl H2.out.r ⟨w1.heap.size, 0, none⟩ 1 [(a, b, s)] rfl hnw.out hlen.out hbz.out ?_; intro v1 w2 ho1 hg1 hat1; obtain ⟨A1, c1, hv1, _, _, _⟩ := pk_row ho1; obtain ⟨n1, hn1⟩ : ∃ n1, n1 = (F ++ [(a, b, s)]).length := ⟨_, rfl⟩; rw [← hn1] at hv1; subst hv1; have HFn := hid hn1; clear hn1; have hd1 := Blk.grown H2.out.d hg1 (fun e => H2.out.vn e.symm); have d10 := hd1.cell 0; have d1f := hd1.frozen 0; have d1l := hd1.lt; have HF := hid (nt_app H2.out ho1 hg1 hat1); clear ho1 hg1 hat1 hd1; simp at d10)
  go_wp2_with fail
  go_ret
  refine ⟨_, _, rfl, rfl, HF.out.1, Chg.trans (S' := NetS nn (.slice A F.length c)) (Chg.of_below (hB1'.out.trans ((show Below w1.heap.size w1 (w1.alloc (Obj.cells (pkv (a, b, s)) 106)) by (repeat (first | exact Below.refl _ _ | assumption | refine below_drewN ?_ _ | refine Below.drew ?_ | refine Below.alloc ?_ (by (try simp); (try omega)) _ | refine Below.setCell ?_ (by (try simp); (try omega)) _))).mono hB1'.out.size)) (NetS nn (.slice A F.length c))) HF.out.2.1 (fun k _ hk => hk), fun g hg => (HF.out.2.2 g hg).imp id (fun h => by have := hB1'.out.size; simp at h; omega)⟩
set_option maxRecDepth 100000 in
set_option maxHeartbeats 4000000 in
set_option maxRecDepth 100000 in
/-- A note arrives at the desk 0. -/
theorem larrivek_0 {w0 wx : World} {m : PM} {s : LS} (h : Pl w0 wx m s) (hsp : s.sp = 0) (hF : s.F.length ≤ 500) (hE : ∀ p ∈ s.F, Ends p.1 p.2.1) (he : Env w0) (k : Nat) (hk : k < s.F.length) (n : P4) (hn : P4I n) (hp : s.F[k] = (1, 0, bs (enc4 n))) (ok : s.da.Ok) (hh : (hearF s.da n).1 = 0) :
    Calls Tryd.prog 46 #[.pointer (some ⟨m.px, 0, none⟩), .int .i64 k] wx (fun e w' => e = .returned (.bool true) ∧ (∃ vn, Pl w0 w' { m with vn := vn } { s with da := (hearF s.da n).2, F := s.F.eraseIdx k }) ∧ KT [26] wx w') := by
  obtain ⟨p0, p1, _, _⟩ := h.c
  have hz := h.bp.lt
  have hc := ndeliver_any h.nt (.inl hsp) hF k hE
  rw [dropN_yes hk, show delN s.F s.sp (k : Int) = ((1, 0, bs (enc4 n)), 0) by unfold delN; rw [if_pos ⟨by omega, by omega⟩, if_pos hsp, getN_yes hk, hp]] at hc
  have P0 := hid h
  have HC := hid hc
  have HN := hid hn
  have HH := hid (fun (W : World) (hW : LdM W m.A s.da) => hear_f hW ok n hn.2.1)
  rw [hh] at HH
  have hsz := hid (show (bs (enc4 n)).size ≤ 88 by rw [bs_size]; exact enc4_le n hn)
  have RN := hid (fun (W : World) (hW : Below w0.heap.size w0 W) => rnote_any (bs (enc4 n)) W (by have := hsz.out; omega) (he.below hW))
  rw [readN_bs n hn] at RN
  simp only [NoRes, noteV, noteC] at RN HH
  obtain ⟨n0, n1, n2, n3⟩ := n
  simp only at RN HH
  clear h hc hE hp hh ok hn hF hsp
  go_enter Tryd.func46, Tryd.ntmps46
  go_wp2_with fail
  refine HC.out.mono ?_
  rintro e w1 ⟨x, vn1, rfl, rfl, N1, C1, _⟩
  have P1 := hid (P0.out.net N1 C1)
  have KT1 := hid (kt_net C1 P0.out.nt)
  clear N1 C1 HC P0 p0 p1
  have P2 := hid (P1.out.alloc (Obj.cells (pkv (1, 0, bs (enc4 (n0, n1, n2, n3)))) 106))
  have x7 := hid (Blk.new w1 106 (pkv (1, 0, bs (enc4 (n0, n1, n2, n3)))))
  clear P1
  go_wp2_with fail
  refine (RN.out _ P2.out.below).mono ?_
  intro e w3 hR3
  simp only [NoRes, noteC] at hR3
  obtain ⟨rfl, hB3⟩ := hR3
  have P4 := hid ((P2.out.step hB3).alloc (Obj.cells #[.int .i64 n0, .int .i64 n1, .int .i64 n2, .int .i64 n3] 26))
  have x74 := hid ((x7.out.below hB3 x7.out.lt).alloc (Obj.cells #[.int .i64 n0, .int .i64 n1, .int .i64 n2, .int .i64 n3] 26))
  have x94 := hid (Blk.new w3 26 #[.int .i64 n0, .int .i64 n1, .int .i64 n2, .int .i64 n3])
  have y0 := (x7.out.below hB3 x7.out.lt).cell 1; have yz := (x7.out.below hB3 x7.out.lt).lt
  simp at y0
  have KT4 := hid (KT1.out.trans ((KT.of_below (show Below w1.heap.size w1 (w1.alloc (Obj.cells (pkv (1, 0, bs (enc4 (n0, n1, n2, n3)))) 106)) by (repeat (first | exact Below.refl _ _ | assumption | refine below_drewN ?_ _ | refine Below.drew ?_ | refine Below.alloc ?_ (by (try simp); (try omega)) _ | refine Below.setCell ?_ (by (try simp); (try omega)) _)))).trans ((KT.of_below hB3).trans (KT.of_below (show Below w3.heap.size w3 (w3.alloc (Obj.cells #[.int .i64 n0, .int .i64 n1, .int .i64 n2, .int .i64 n3] 26)) by (repeat (first | exact Below.refl _ _ | assumption | refine below_drewN ?_ _ | refine Below.drew ?_ | refine Below.alloc ?_ (by (try simp); (try omega)) _ | refine Below.setCell ?_ (by (try simp); (try omega)) _)))))))
  clear hB3 P2 x7 RN KT1
  generalize w1.heap.size = g7 at *
  go_upto_region 7 with fail
  clear y0 yz
  generalize hw4 : w3.alloc (Obj.cells #[.int .i64 n0, .int .i64 n1, .int .i64 n2, .int .i64 n3] 26) = w4 at *
  clear hw4
  generalize w3.heap.size = g9 at *
  have HSF := hid (fun (wq : World) (hq : Below w4.heap.size w4 wq) => And.intro (P4.out.step hq).c (And.intro ((x74.out.below hq x74.out.lt).cell 1) (And.intro ((x94.out.below hq x94.out.lt).cell 0) (And.intro ((x94.out.below hq x94.out.lt).cell 1) (And.intro ((x94.out.below hq x94.out.lt).cell 2) ((x94.out.below hq x94.out.lt).cell 3))))))
  have BD := hid ((Below.refl w4.heap.size w4).drew)
  refine wpIn_wide.1 (wpIn_region_S (n := 0) (fun wq => Below w4.heap.size w4 wq) [9] (by kernel_rfl) BD.out (fun hHeld => ?_))
  have P5 := hid (P4.out.step BD.out)
  have KT5 := hid (KT4.out.trans (KT.of_below BD.out))
  clear KT4
  generalize w4.drew = w5 at *
  refine wpAnyS_pure 0 (v := ?_) (fun _ => trivial) (by simp only [List.getElem?_toArray, List.getElem?_cons_succ, List.getElem?_cons_zero]; rfl) (by kernel_rfl) (fun _ _ _ _ _ h => h) ⟨rfl, (by intro c h; cases h), ?_⟩ hHeld ?_
  rotate_left
  focus (intro wS hSw; (try replace hSw := HSF.out wS hSw); (try dsimp only at hSw); go_simp; (try with_reducible rfl))
  (try simp only [Act.put, List.setIfInBounds_toArray, List.set_cons_zero, List.set_cons_succ])
  refine wpAnyS_pure 1 (v := ?_) (fun _ => trivial) (by simp only [List.getElem?_toArray, List.getElem?_cons_succ, List.getElem?_cons_zero]; rfl) (by kernel_rfl) (fun _ _ _ _ _ h => h) ⟨rfl, (by intro c h; cases h), ?_⟩ hHeld ?_
  rotate_left
  focus (intro wS hSw; (try replace hSw := HSF.out wS hSw); (try dsimp only at hSw); go_simp; (try with_reducible rfl))
  (try simp only [Act.put, List.setIfInBounds_toArray, List.set_cons_zero, List.set_cons_succ])
  refine wpAnyS_pure 2 (v := ?_) (fun _ => trivial) (by simp only [List.getElem?_toArray, List.getElem?_cons_succ, List.getElem?_cons_zero]; rfl) (by kernel_rfl) (fun _ _ _ _ _ h => h) ⟨rfl, (by intro c h; cases h), ?_⟩ hHeld ?_
  rotate_left
  focus (intro wS hSw; (try replace hSw := HSF.out wS hSw); (try dsimp only at hSw); go_simp; (try with_reducible rfl))
  (try simp only [Act.put, List.setIfInBounds_toArray, List.set_cons_zero, List.set_cons_succ])
  refine wpAnyS_take 3 (v := ?_) (fun _ => trivial) (by simp only [List.getElem?_toArray, List.getElem?_cons_succ, List.getElem?_cons_zero]; rfl) (by kernel_rfl) (fun _ _ _ _ _ h => h) ⟨rfl, (by intro c h; cases h), ?_⟩ hHeld ?_
  rotate_left
  focus (intro wS hSw; (try replace hSw := HSF.out wS hSw); (try dsimp only at hSw); go_simp; (try with_reducible rfl))
  (try simp only [Act.put, List.setIfInBounds_toArray, List.set_cons_zero, List.set_cons_succ])
  refine wpAnyS_pure 4 (v := ?_) (fun _ => trivial) (by simp only [List.getElem?_toArray, List.getElem?_cons_succ, List.getElem?_cons_zero]; rfl) (by kernel_rfl) (fun _ _ _ _ _ h => h) ⟨rfl, (by intro c h; cases h), ?_⟩ hHeld ?_
  rotate_left
  focus (intro wS hSw; (try replace hSw := HSF.out wS hSw); (try dsimp only at hSw); go_simp; (try with_reducible rfl))
  (try simp only [Act.put, List.setIfInBounds_toArray, List.set_cons_zero, List.set_cons_succ])
  refine wpAnyS_take 5 (v := ?_) (fun _ => trivial) (by simp only [List.getElem?_toArray, List.getElem?_cons_succ, List.getElem?_cons_zero]; rfl) (by kernel_rfl) (fun _ _ _ _ _ h => h) ⟨rfl, (by intro c h; cases h), ?_⟩ hHeld ?_
  rotate_left
  focus (intro wS hSw; (try replace hSw := HSF.out wS hSw); (try dsimp only at hSw); go_simp; (try with_reducible rfl))
  (try simp only [Act.put, List.setIfInBounds_toArray, List.set_cons_zero, List.set_cons_succ])
  refine wpAnyS_pure 6 (v := ?_) (fun _ => trivial) (by simp only [List.getElem?_toArray, List.getElem?_cons_succ, List.getElem?_cons_zero]; rfl) (by kernel_rfl) (fun _ _ _ _ _ h => h) ⟨rfl, (by intro c h; cases h), ?_⟩ hHeld ?_
  rotate_left
  focus (intro wS hSw; (try replace hSw := HSF.out wS hSw); (try dsimp only at hSw); go_simp; (try with_reducible rfl))
  (try simp only [Act.put, List.setIfInBounds_toArray, List.set_cons_zero, List.set_cons_succ])
  refine wpAnyS_take 7 (v := ?_) (fun _ => trivial) (by simp only [List.getElem?_toArray, List.getElem?_cons_succ, List.getElem?_cons_zero]; rfl) (by kernel_rfl) (fun _ _ _ _ _ h => h) ⟨rfl, (by intro c h; cases h), ?_⟩ hHeld ?_
  rotate_left
  focus (intro wS hSw; (try replace hSw := HSF.out wS hSw); (try dsimp only at hSw); go_simp; (try with_reducible rfl))
  (try simp only [Act.put, List.setIfInBounds_toArray, List.set_cons_zero, List.set_cons_succ])
  refine wpAnyS_take 8 (v := ?_) (fun _ => trivial) (by simp only [List.getElem?_toArray, List.getElem?_cons_succ, List.getElem?_cons_zero]; rfl) (by kernel_rfl) (fun _ _ _ _ _ h => h) ⟨rfl, (by intro c h; cases h), ?_⟩ hHeld ?_
  rotate_left
  focus (intro wS hSw; (try replace hSw := HSF.out wS hSw); (try dsimp only at hSw); go_simp; (try with_reducible rfl))
  (try simp only [Act.put, List.setIfInBounds_toArray, List.set_cons_zero, List.set_cons_succ])
  refine wpAnyS_ready [9] (by kernel_rfl) (by simp) (AllReadyS.consL (by simp only [List.getElem?_toArray, List.getElem?_cons_succ, List.getElem?_cons_zero]; rfl) rfl (by kernel_rfl) (fun K hK => ?_) AllReadyS.nil)
  refine callS (by intro c h; cases h) (by go_simp; try with_reducible rfl) (HH.out w5 P5.out.la) ?_
  intro w6 hq
  obtain ⟨hL, q, hq, hg⟩ := hq
  have P6 := hid (P5.out.desk0 hq hL hg)
  have KT6 := hid (KT5.out.trans (kt_map (hq.elim (fun e => by subst e; exact fun _ _ _ hb => P5.out.la.h.apart hb) (fun e => by subst e; exact fun _ _ _ hb => P5.out.la.g.apart hb)) hg))
  refine hK.out _ _ ?_
  (try simp only [Act.put, List.setIfInBounds_toArray, List.set_cons_zero, List.set_cons_succ])
  clear hK K hL hq hg P5 P4 HSF hHeld BD
  refine wpAnyS_pureL 10 (v := ?_) (fun _ => trivial) (by simp only [List.getElem?_toArray, List.getElem?_cons_succ, List.getElem?_cons_zero]; rfl) (by kernel_rfl) (by kernel_rfl) (fun _ _ _ _ _ h => h) ⟨rfl, (by intro c h; cases h), ?_⟩ ?_
  rotate_left
  focus (intro wS hSw; (try replace hSw := HSF.out wS hSw); (try dsimp only at hSw); go_simp; (try with_reducible rfl))
  (try simp only [Act.put, List.setIfInBounds_toArray, List.set_cons_zero, List.set_cons_succ])
  refine wpAnyS_pureL 11 (v := ?_) (fun _ => trivial) (by simp only [List.getElem?_toArray, List.getElem?_cons_succ, List.getElem?_cons_zero]; rfl) (by kernel_rfl) (by kernel_rfl) (fun _ _ _ _ _ h => h) ⟨rfl, (by intro c h; cases h), ?_⟩ ?_
  rotate_left
  focus (intro wS hSw; (try replace hSw := HSF.out wS hSw); (try dsimp only at hSw); go_simp; (try with_reducible rfl))
  (try simp only [Act.put, List.setIfInBounds_toArray, List.set_cons_zero, List.set_cons_succ])
  refine wpAnyS_done (by kernel_rfl) ?_
  go_wp2_with fail
  go_ret
  exact ⟨rfl, ⟨vn1, P6.out⟩, KT6.out⟩
set_option maxRecDepth 100000 in
set_option maxHeartbeats 4000000 in
set_option maxRecDepth 100000 in
/-- A note arrives at the desk 1. -/
theorem larrivek_1 {w0 wx : World} {m : PM} {s : LS} (h : Pl w0 wx m s) (hsp : s.sp = 0) (hF : s.F.length ≤ 500) (hE : ∀ p ∈ s.F, Ends p.1 p.2.1) (he : Env w0) (k : Nat) (hk : k < s.F.length) (n : P4) (hn : P4I n) (hp : s.F[k] = (0, 1, bs (enc4 n))) (ok : s.db.Ok) (hh : (hearF s.db n).1 = 0) :
    Calls Tryd.prog 46 #[.pointer (some ⟨m.px, 0, none⟩), .int .i64 k] wx (fun e w' => e = .returned (.bool true) ∧ (∃ vn, Pl w0 w' { m with vn := vn } { s with db := (hearF s.db n).2, F := s.F.eraseIdx k }) ∧ KT [26] wx w') := by
  obtain ⟨p0, p1, _, _⟩ := h.c
  have hz := h.bp.lt
  have hc := ndeliver_any h.nt (.inl hsp) hF k hE
  rw [dropN_yes hk, show delN s.F s.sp (k : Int) = ((0, 1, bs (enc4 n)), 0) by unfold delN; rw [if_pos ⟨by omega, by omega⟩, if_pos hsp, getN_yes hk, hp]] at hc
  have P0 := hid h
  have HC := hid hc
  have HN := hid hn
  have HH := hid (fun (W : World) (hW : LdM W m.B s.db) => hear_f hW ok n hn.2.1)
  rw [hh] at HH
  have hsz := hid (show (bs (enc4 n)).size ≤ 88 by rw [bs_size]; exact enc4_le n hn)
  have RN := hid (fun (W : World) (hW : Below w0.heap.size w0 W) => rnote_any (bs (enc4 n)) W (by have := hsz.out; omega) (he.below hW))
  rw [readN_bs n hn] at RN
  simp only [NoRes, noteV, noteC] at RN HH
  obtain ⟨n0, n1, n2, n3⟩ := n
  simp only at RN HH
  clear h hc hE hp hh ok hn hF hsp
  go_enter Tryd.func46, Tryd.ntmps46
  go_wp2_with fail
  refine HC.out.mono ?_
  rintro e w1 ⟨x, vn1, rfl, rfl, N1, C1, _⟩
  have P1 := hid (P0.out.net N1 C1)
  have KT1 := hid (kt_net C1 P0.out.nt)
  clear N1 C1 HC P0 p0 p1
  have P2 := hid (P1.out.alloc (Obj.cells (pkv (0, 1, bs (enc4 (n0, n1, n2, n3)))) 106))
  have x7 := hid (Blk.new w1 106 (pkv (0, 1, bs (enc4 (n0, n1, n2, n3)))))
  clear P1
  go_wp2_with fail
  refine (RN.out _ P2.out.below).mono ?_
  intro e w3 hR3
  simp only [NoRes, noteC] at hR3
  obtain ⟨rfl, hB3⟩ := hR3
  have P4 := hid ((P2.out.step hB3).alloc (Obj.cells #[.int .i64 n0, .int .i64 n1, .int .i64 n2, .int .i64 n3] 26))
  have x74 := hid ((x7.out.below hB3 x7.out.lt).alloc (Obj.cells #[.int .i64 n0, .int .i64 n1, .int .i64 n2, .int .i64 n3] 26))
  have x94 := hid (Blk.new w3 26 #[.int .i64 n0, .int .i64 n1, .int .i64 n2, .int .i64 n3])
  have y0 := (x7.out.below hB3 x7.out.lt).cell 1; have yz := (x7.out.below hB3 x7.out.lt).lt
  simp at y0
  have KT4 := hid (KT1.out.trans ((KT.of_below (show Below w1.heap.size w1 (w1.alloc (Obj.cells (pkv (0, 1, bs (enc4 (n0, n1, n2, n3)))) 106)) by (repeat (first | exact Below.refl _ _ | assumption | refine below_drewN ?_ _ | refine Below.drew ?_ | refine Below.alloc ?_ (by (try simp); (try omega)) _ | refine Below.setCell ?_ (by (try simp); (try omega)) _)))).trans ((KT.of_below hB3).trans (KT.of_below (show Below w3.heap.size w3 (w3.alloc (Obj.cells #[.int .i64 n0, .int .i64 n1, .int .i64 n2, .int .i64 n3] 26)) by (repeat (first | exact Below.refl _ _ | assumption | refine below_drewN ?_ _ | refine Below.drew ?_ | refine Below.alloc ?_ (by (try simp); (try omega)) _ | refine Below.setCell ?_ (by (try simp); (try omega)) _)))))))
  clear hB3 P2 x7 RN KT1
  generalize w1.heap.size = g7 at *
  go_upto_region 7 with fail
  clear y0 yz
  generalize hw4 : w3.alloc (Obj.cells #[.int .i64 n0, .int .i64 n1, .int .i64 n2, .int .i64 n3] 26) = w4 at *
  clear hw4
  generalize w3.heap.size = g9 at *
  have HSF := hid (fun (wq : World) (hq : Below w4.heap.size w4 wq) => And.intro (P4.out.step hq).c (And.intro ((x74.out.below hq x74.out.lt).cell 1) (And.intro ((x94.out.below hq x94.out.lt).cell 0) (And.intro ((x94.out.below hq x94.out.lt).cell 1) (And.intro ((x94.out.below hq x94.out.lt).cell 2) ((x94.out.below hq x94.out.lt).cell 3))))))
  have BD := hid ((Below.refl w4.heap.size w4).drew)
  refine wpIn_wide.1 (wpIn_region_S (n := 0) (fun wq => Below w4.heap.size w4 wq) [9] (by kernel_rfl) BD.out (fun hHeld => ?_))
  have P5 := hid (P4.out.step BD.out)
  have KT5 := hid (KT4.out.trans (KT.of_below BD.out))
  clear KT4
  generalize w4.drew = w5 at *
  refine wpAnyS_pure 0 (v := ?_) (fun _ => trivial) (by simp only [List.getElem?_toArray, List.getElem?_cons_succ, List.getElem?_cons_zero]; rfl) (by kernel_rfl) (fun _ _ _ _ _ h => h) ⟨rfl, (by intro c h; cases h), ?_⟩ hHeld ?_
  rotate_left
  focus (intro wS hSw; (try replace hSw := HSF.out wS hSw); (try dsimp only at hSw); go_simp; (try with_reducible rfl))
  (try simp only [Act.put, List.setIfInBounds_toArray, List.set_cons_zero, List.set_cons_succ])
  refine wpAnyS_pure 1 (v := ?_) (fun _ => trivial) (by simp only [List.getElem?_toArray, List.getElem?_cons_succ, List.getElem?_cons_zero]; rfl) (by kernel_rfl) (fun _ _ _ _ _ h => h) ⟨rfl, (by intro c h; cases h), ?_⟩ hHeld ?_
  rotate_left
  focus (intro wS hSw; (try replace hSw := HSF.out wS hSw); (try dsimp only at hSw); go_simp; (try with_reducible rfl))
  (try simp only [Act.put, List.setIfInBounds_toArray, List.set_cons_zero, List.set_cons_succ])
  refine wpAnyS_pure 2 (v := ?_) (fun _ => trivial) (by simp only [List.getElem?_toArray, List.getElem?_cons_succ, List.getElem?_cons_zero]; rfl) (by kernel_rfl) (fun _ _ _ _ _ h => h) ⟨rfl, (by intro c h; cases h), ?_⟩ hHeld ?_
  rotate_left
  focus (intro wS hSw; (try replace hSw := HSF.out wS hSw); (try dsimp only at hSw); go_simp; (try with_reducible rfl))
  (try simp only [Act.put, List.setIfInBounds_toArray, List.set_cons_zero, List.set_cons_succ])
  refine wpAnyS_take 3 (v := ?_) (fun _ => trivial) (by simp only [List.getElem?_toArray, List.getElem?_cons_succ, List.getElem?_cons_zero]; rfl) (by kernel_rfl) (fun _ _ _ _ _ h => h) ⟨rfl, (by intro c h; cases h), ?_⟩ hHeld ?_
  rotate_left
  focus (intro wS hSw; (try replace hSw := HSF.out wS hSw); (try dsimp only at hSw); go_simp; (try with_reducible rfl))
  (try simp only [Act.put, List.setIfInBounds_toArray, List.set_cons_zero, List.set_cons_succ])
  refine wpAnyS_pure 4 (v := ?_) (fun _ => trivial) (by simp only [List.getElem?_toArray, List.getElem?_cons_succ, List.getElem?_cons_zero]; rfl) (by kernel_rfl) (fun _ _ _ _ _ h => h) ⟨rfl, (by intro c h; cases h), ?_⟩ hHeld ?_
  rotate_left
  focus (intro wS hSw; (try replace hSw := HSF.out wS hSw); (try dsimp only at hSw); go_simp; (try with_reducible rfl))
  (try simp only [Act.put, List.setIfInBounds_toArray, List.set_cons_zero, List.set_cons_succ])
  refine wpAnyS_take 5 (v := ?_) (fun _ => trivial) (by simp only [List.getElem?_toArray, List.getElem?_cons_succ, List.getElem?_cons_zero]; rfl) (by kernel_rfl) (fun _ _ _ _ _ h => h) ⟨rfl, (by intro c h; cases h), ?_⟩ hHeld ?_
  rotate_left
  focus (intro wS hSw; (try replace hSw := HSF.out wS hSw); (try dsimp only at hSw); go_simp; (try with_reducible rfl))
  (try simp only [Act.put, List.setIfInBounds_toArray, List.set_cons_zero, List.set_cons_succ])
  refine wpAnyS_pure 6 (v := ?_) (fun _ => trivial) (by simp only [List.getElem?_toArray, List.getElem?_cons_succ, List.getElem?_cons_zero]; rfl) (by kernel_rfl) (fun _ _ _ _ _ h => h) ⟨rfl, (by intro c h; cases h), ?_⟩ hHeld ?_
  rotate_left
  focus (intro wS hSw; (try replace hSw := HSF.out wS hSw); (try dsimp only at hSw); go_simp; (try with_reducible rfl))
  (try simp only [Act.put, List.setIfInBounds_toArray, List.set_cons_zero, List.set_cons_succ])
  refine wpAnyS_take 7 (v := ?_) (fun _ => trivial) (by simp only [List.getElem?_toArray, List.getElem?_cons_succ, List.getElem?_cons_zero]; rfl) (by kernel_rfl) (fun _ _ _ _ _ h => h) ⟨rfl, (by intro c h; cases h), ?_⟩ hHeld ?_
  rotate_left
  focus (intro wS hSw; (try replace hSw := HSF.out wS hSw); (try dsimp only at hSw); go_simp; (try with_reducible rfl))
  (try simp only [Act.put, List.setIfInBounds_toArray, List.set_cons_zero, List.set_cons_succ])
  refine wpAnyS_take 8 (v := ?_) (fun _ => trivial) (by simp only [List.getElem?_toArray, List.getElem?_cons_succ, List.getElem?_cons_zero]; rfl) (by kernel_rfl) (fun _ _ _ _ _ h => h) ⟨rfl, (by intro c h; cases h), ?_⟩ hHeld ?_
  rotate_left
  focus (intro wS hSw; (try replace hSw := HSF.out wS hSw); (try dsimp only at hSw); go_simp; (try with_reducible rfl))
  (try simp only [Act.put, List.setIfInBounds_toArray, List.set_cons_zero, List.set_cons_succ])
  refine wpAnyS_ready [9] (by kernel_rfl) (by simp) (AllReadyS.consL (by simp only [List.getElem?_toArray, List.getElem?_cons_succ, List.getElem?_cons_zero]; rfl) rfl (by kernel_rfl) (fun K hK => ?_) AllReadyS.nil)
  refine callS (by intro c h; cases h) (by go_simp; try with_reducible rfl) (HH.out w5 P5.out.lb) ?_
  intro w6 hq
  obtain ⟨hL, q, hq, hg⟩ := hq
  have P6 := hid (P5.out.desk1 hq hL hg)
  have KT6 := hid (KT5.out.trans (kt_map (hq.elim (fun e => by subst e; exact fun _ _ _ hb => P5.out.lb.h.apart hb) (fun e => by subst e; exact fun _ _ _ hb => P5.out.lb.g.apart hb)) hg))
  refine hK.out _ _ ?_
  (try simp only [Act.put, List.setIfInBounds_toArray, List.set_cons_zero, List.set_cons_succ])
  clear hK K hL hq hg P5 P4 HSF hHeld BD
  refine wpAnyS_pureL 10 (v := ?_) (fun _ => trivial) (by simp only [List.getElem?_toArray, List.getElem?_cons_succ, List.getElem?_cons_zero]; rfl) (by kernel_rfl) (by kernel_rfl) (fun _ _ _ _ _ h => h) ⟨rfl, (by intro c h; cases h), ?_⟩ ?_
  rotate_left
  focus (intro wS hSw; (try replace hSw := HSF.out wS hSw); (try dsimp only at hSw); go_simp; (try with_reducible rfl))
  (try simp only [Act.put, List.setIfInBounds_toArray, List.set_cons_zero, List.set_cons_succ])
  refine wpAnyS_pureL 11 (v := ?_) (fun _ => trivial) (by simp only [List.getElem?_toArray, List.getElem?_cons_succ, List.getElem?_cons_zero]; rfl) (by kernel_rfl) (by kernel_rfl) (fun _ _ _ _ _ h => h) ⟨rfl, (by intro c h; cases h), ?_⟩ ?_
  rotate_left
  focus (intro wS hSw; (try replace hSw := HSF.out wS hSw); (try dsimp only at hSw); go_simp; (try with_reducible rfl))
  (try simp only [Act.put, List.setIfInBounds_toArray, List.set_cons_zero, List.set_cons_succ])
  refine wpAnyS_done (by kernel_rfl) ?_
  go_wp2_with fail
  go_ret
  exact ⟨rfl, ⟨vn1, P6.out⟩, KT6.out⟩
def hasB (l : List Int) (n : Int) : Bool := l.contains n
set_option maxRecDepth 100000 in
set_option maxHeartbeats 1000000 in
theorem lhas_any (A : Option Addr) (c : Nat) (l : List Int) (n : Int) (w : World) (hl : l.length ≤ 1000000) (hs : SlR w w.heap.size A l) :
    Calls Tryd.prog 47 #[.slice A l.length c, .int .i64 n] w fun e w' => e = .returned (.bool (hasB l n)) ∧ Below w.heap.size w w' := by
  have HS := hid hs
  clear hs
  have hst := hid (fun k (hk : k < l.length) => show hasB (l.drop k) n = (decide (l[k] = n) || hasB (l.drop (k + 1)) n) by
    unfold hasB
    rw [List.drop_eq_getElem_cons hk, List.contains_cons]
    congr 1
    exact (Bool.beq_eq_decide_eq _ _).trans (by congr 1; exact propext ⟨fun h => h.symm, fun h => h.symm⟩))
  have h0 := hid (show hasB l n = hasB (l.drop 0) n by simp)
  go_enter Tryd.func47, Tryd.ntmps47
  go_wp2_with fail
  go_loopw [5] (fun i wr => ∃ k : Nat, k ≤ l.length ∧ i = .int .i64 k ∧ Hid (hasB l n = hasB (l.drop k) n) ∧ w = wr) (fun i _ => l.length - (intOf i).toNat)
  case atStart => exact ⟨0, by omega, rfl, hid h0.out, rfl⟩
  case round =>
    clear h0
    obtain ⟨k, hk, rfl, hc, rfl⟩ := hrel
    by_cases hlt : k < l.length
    · obtain ⟨b, off, rfl, hb, g1, _⟩ := HS.out.int hlt
      have hlt' : (k : Int) < l.length := by omega
      have hk1 : wrap64 ((k : Int) + 1) = ((k + 1 : Nat) : Int) := by rw [wrap64_in _ (by omega)]; simp
      have hx := hid (hst.out k hlt)
      generalize l[k] = x at *
      by_cases e : x = n
      · have hr := hid (show hasB l n = true by rw [hc.out, hx.out, e]; simp)
        subst e
        go_wp2_with fail
        go_ret
        exact ⟨ret_bool hr.out.symm, Below.refl _ _⟩
      · have e1 : (x == n) = false := by simpa using e
        have hr := hid (show hasB l n = hasB (l.drop (k + 1)) n by rw [hc.out, hx.out, decide_eq_false e]; simp)
        go_wp2_with fail
        go_roundw
        case rel => exact ⟨k + 1, hlt, by simp [hk1], hid hr.out, (by first | rfl | trivial)⟩
        case measure => simp [intOf, hk1]; omega
    · have hr := hid (show hasB l n = false by rw [hc.out, List.drop_eq_nil_of_le (by omega)]; rfl)
      have hnl : ¬ (k : Int) < (l.length : Int) := by omega
      go_wp2_with fail
      go_ret
      exact ⟨ret_bool hr.out.symm, Below.refl _ _⟩
theorem upToP_has (p : Int → Bool) : ∀ (N : Nat) (z : Int), (upToP p N).contains z = (decide (0 ≤ z ∧ z < N) && p z)
  | 0, z => by simp [upToP]; omega
  | N + 1, z => by
    have ih := upToP_has p N z
    unfold upToP
    by_cases e : z = (N : Int)
    · subst e
      have h1 : decide ((0 : Int) ≤ N ∧ (N : Int) < ((N : Nat) : Int)) = false := decide_eq_false (by omega)
      have h2 : decide ((0 : Int) ≤ N ∧ (N : Int) < ((N + 1 : Nat) : Int)) = true := decide_eq_true (by omega)
      rw [List.contains_append, ih, h1, h2]
      cases p N <;> simp
    · have h1 : decide (0 ≤ z ∧ z < ((N + 1 : Nat) : Int)) = decide (0 ≤ z ∧ z < (N : Int)) := by
        by_cases h : 0 ≤ z ∧ z < (N : Int)
        · rw [decide_eq_true h, decide_eq_true (by omega)]
        · rw [decide_eq_false h, decide_eq_false (by omega)]
      rw [List.contains_append, ih, h1]
      have h3 : (if p (N : Int) = true then [(N : Int)] else []).contains z = false := by
        split
        · simp; omega
        · rfl
      rw [h3, Bool.or_false]
end Go.Proofs.YtappgjdnfllblaaDoor
