
/- Net: sending, taking, delivering, dropping, doubling. -/
import Derived.Test.YtfofmbmmighdiaaDoorSeamNc
set_option linter.unusedSimpArgs false
set_option linter.unusedVariables false
namespace Go.Proofs.YtfofmbmmighdiaaDoor
open Go.RowKit Go.IntWalk

def sendN (F : List Pk) (sp : Int) (p : Pk) : List Pk := if sp = 0 ∧ F.length < 500 then F ++ [p] else F
abbrev pkv (p : Pk) : Array Value := #[.int .i64 p.1, .int .i64 p.2.1, .string p.2.2]
set_option maxRecDepth 100000 in
set_option maxHeartbeats 1000000 in
theorem nsend_any {w : World} {base nn : Nat} {v : Value} {F : List Pk} {sp : Int} (h : Nt w base nn v F sp) (hsp : sp = 0 ∨ sp = 1) (hF : F.length ≤ 500) (hbs : base ≤ w.heap.size) (a b : Int) (s : ByteArray) (hab : Ends a b) :
    Calls Tryd.prog 66 #[.pointer (some ⟨nn, 0, none⟩), .int .i64 a, .int .i64 b, .string s] w (NtRes w base nn v (sendN F sp (a, b, s)) sp (fun x => ∃ n, x = .int .i64 n)) := by
  have H := hid h
  obtain ⟨A, c, rfl, _, _, _⟩ := pk_row h.r
  have ha : a = 0 ∨ a = 1 := by rcases hab with ⟨rfl, _⟩ | ⟨rfl, _⟩ <;> simp
  have hb : b = 0 ∨ b = 1 := by rcases hab with ⟨_, rfl⟩ | ⟨_, rfl⟩ <;> simp
  have hne : (a == b) = false := by rcases hab with ⟨rfl, rfl⟩ | ⟨rfl, rfl⟩ <;> rfl
  have HA := hid ha; have HB := hid hb; have HAB := hid hab
  clear h ha hb hab
  go_enter Tryd.func66, Tryd.ntmps66
  go_wp2_with fail
  refine (end_yes a HA.out _).mono ?_
  rintro e w1 ⟨rfl, rfl⟩
  go_wp2_with fail
  refine (end_yes b HB.out _).mono ?_
  rintro e w1 ⟨rfl, rfl⟩
  go_wp2_with fail
  refine (nhear_any H.out hsp a b HAB.out).mono ?_
  rintro e w1 ⟨rfl, hB1⟩
  rcases hsp with rfl | rfl
  · have H1 := hid (H.out.below hB1)
    obtain ⟨d0, d1⟩ := nt2 H1.out
    have hz := H1.out.d.lt
    by_cases h5 : 500 ≤ F.length
    · have hr := hid (show sendN F 0 (a, b, s) = F by unfold sendN; rw [if_neg (by omega)])
      have h5' : (500 : Int) ≤ (F.length : Int) := by omega
      go_wp2_with fail
      go_ret
      rw [hr.out]
      exact H.out.same ⟨_, rfl⟩ hB1
    · have hr := hid (show sendN F 0 (a, b, s) = F ++ [(a, b, s)] by unfold sendN; rw [if_pos ⟨rfl, by omega⟩])
      have h5' : ¬ (500 : Int) ≤ (F.length : Int) := by omega
      have H2 := hid (H1.out.alloc (Obj.cells (pkv (a, b, s)) 76))
      have hnw := hid (pk_news (p := (a, b, s)) (Blk.new w1 76 (pkv (a, b, s))))
      have f0 := H1.out.d.frozen 0
      have hbz := hid (show base ≤ (w1.alloc (Obj.cells (pkv (a, b, s)) 76)).heap.size by have := hB1.size; simp; omega)
      have hlen := hid (show F.length + 1 ≤ 1000000 by omega)
      have hB1' := hid hB1
      clear hB1 hF hbs
      go_wp2_with (at_builtin; refine wp_appPk _ rfl (.tmp 40) (.tmp 45) rfl base _ F rfl H2.out.r ⟨w1.heap.size, 0, none⟩ 1 [(a, b, s)] rfl hnw.out hlen.out hbz.out ?_; intro v1 w2 ho1 hg1 hat1; obtain ⟨A1, c1, hv1, _, _, _⟩ := pk_row ho1; obtain ⟨n1, hn1⟩ : ∃ n1, n1 = (F ++ [(a, b, s)]).length := ⟨_, rfl⟩; rw [← hn1] at hv1; subst hv1; have HFn := hid hn1; clear hn1; have hd1 := Blk.grown H2.out.d hg1 (fun e => H2.out.vn e.symm); have d10 := hd1.cell 0; have d1f := hd1.frozen 0; have d1l := hd1.lt; have HF := hid (nt_app H2.out ho1 hg1 hat1); clear ho1 hg1 hat1 hd1; simp at d10)
      go_wp2_with fail
      go_ret
      rw [hr.out]
      refine ⟨_, _, rfl, ⟨_, rfl⟩, HF.out.1, Chg.trans (S' := NetS nn (.slice A F.length c)) (Chg.of_below (hB1'.out.trans ((show Below w1.heap.size w1 (w1.alloc (Obj.cells (pkv (a, b, s)) 76)) by (repeat (first | exact Below.refl _ _ | assumption | refine below_drewN ?_ _ | refine Below.drew ?_ | refine Below.alloc ?_ (by (try simp); (try omega)) _ | refine Below.setCell ?_ (by (try simp); (try omega)) _))).mono hB1'.out.size)) (NetS nn (.slice A F.length c))) HF.out.2.1 (fun k _ hk => hk), fun g hg => (HF.out.2.2 g hg).imp id (fun h => by have := hB1'.out.size; simp at h; omega)⟩
  · have hr := hid (show sendN F 1 (a, b, s) = F by unfold sendN; rw [if_neg (by omega)])
    go_wp2_with fail
    go_ret
    rw [hr.out]
    exact H.out.same ⟨_, rfl⟩ hB1

def inN (F : List Pk) (i : Int) : Prop := 0 ≤ i ∧ i < F.length
instance (F : List Pk) (i : Int) : Decidable (inN F i) := by unfold inN; infer_instance
def getN (F : List Pk) (i : Int) : Pk := if 0 ≤ i ∧ i < F.length then F.getD i.toNat (0, 0, ⟨#[]⟩) else (0, 0, ⟨#[]⟩)
def dropN (F : List Pk) (i : Int) : List Pk := if 0 ≤ i ∧ i < F.length then F.eraseIdx i.toNat else F
theorem getN_no {F : List Pk} {i : Int} (h : ¬ (0 ≤ i ∧ i < F.length)) : getN F i = (0, 0, ⟨#[]⟩) := by unfold getN; rw [if_neg h]
theorem getN_yes {F : List Pk} {i : Nat} (h : i < F.length) : getN F i = F[i] := by
  unfold getN; rw [if_pos ⟨by omega, by omega⟩]; simp [h]
theorem dropN_yes {F : List Pk} {i : Nat} (h : i < F.length) : dropN F i = F.eraseIdx i := by
  unfold dropN; rw [if_pos ⟨by omega, by omega⟩]; simp
theorem dropN_no {F : List Pk} {i : Int} (h : ¬ (0 ≤ i ∧ i < F.length)) : dropN F i = F := by unfold dropN; rw [if_neg h]
theorem results_row_tmp {P : Program} {fn : Func} {p u : Tmp} {ty : TypeId} (h : fn.results = #[.cell p ty, .tmp u]) (tmps : Array Value) (w : World) (g : Nat) (t : TypeId) (cs : Array Value) (fr : Nat × Nat) (d : TypeDesc)
    (hp : tmps.getD p undef = .pointer (some ⟨g, 0, none⟩)) (hg : w.heap[g]? = some (.cells cs t fr))
    (hu : P.underlying ty = some d) (hd : (match d with | .struct _ | .array _ _ => true | _ => false) = true) (hi : (P.info? ty).map (·.size) = some cs.size) :
    (results fn tmps).run P w = .ok (.tuple #[.agg cs, tmps.getD u undef]) w := by
  rw [results_cell_tmp h]
  rw [hp]
  simp [asAddr, run_loadVar_row w g t ty cs fr d hg hu hd hi]
theorem take_fin {w w2 w3 : World} {base nn g n c : Nat} {F F' : List Pk} {sp : Int} (H2 : Nt w2 base nn (.slice (some ⟨g, 0, none⟩) n c) F sp) (hB : Below w.heap.size w w2)
    (hd : Blk w3 nn 104 #[.slice (some ⟨g, 0, none⟩) n c, .int .i64 sp]) (ho : w3.ownsRow base 76 3 (.slice (some ⟨g, 0, none⟩) (n - 1) c) F'.length (pc F')) (hg : w2.grownBy w3 (some g))
    (hgn : (Value.slice (some ⟨g, 0, none⟩) n c).ownBlock ≠ some nn) (hgs : g < w.heap.size) (hn : nn ≠ w.heap.size) (x y z : Value) :
    Nt ((((w3.setCell ⟨nn, 0, none⟩ (.slice (some ⟨g, 0, none⟩) (n - 1) c)).setCell ⟨w.heap.size, 0, none⟩ x).setCell ⟨w.heap.size, 1, none⟩ y).setCell ⟨w.heap.size, 2, none⟩ z) base nn (.slice (some ⟨g, 0, none⟩) (n - 1) c) F' sp ∧
    Chg w ((((w3.setCell ⟨nn, 0, none⟩ (.slice (some ⟨g, 0, none⟩) (n - 1) c)).setCell ⟨w.heap.size, 0, none⟩ x).setCell ⟨w.heap.size, 1, none⟩ y).setCell ⟨w.heap.size, 2, none⟩ z) (NetS nn (.slice (some ⟨g, 0, none⟩) n c)) := by
  have hgn' : g ≠ nn := by simpa [Value.ownBlock] using hgn
  have g4 := grown_s w3 nn 0 (.slice (some ⟨g, 0, none⟩) (n - 1) c)
  have g5 : (w3.setCell ⟨nn, 0, none⟩ (.slice (some ⟨g, 0, none⟩) (n - 1) c)).grownBy ((((w3.setCell ⟨nn, 0, none⟩ (.slice (some ⟨g, 0, none⟩) (n - 1) c)).setCell ⟨w.heap.size, 0, none⟩ x).setCell ⟨w.heap.size, 1, none⟩ y).setCell ⟨w.heap.size, 2, none⟩ z) (some w.heap.size) :=
    grown_tr (grown_tr (grown_s _ _ 0 _) (grown_s _ _ 1 _)) (grown_s _ _ 2 _)
  refine ⟨⟨?_, ?_⟩, ?_⟩
  · refine Blk.grown (?_ : Blk (w3.setCell ⟨nn, 0, none⟩ (.slice (some ⟨g, 0, none⟩) (n - 1) c)) nn _ _) g5 (by intro e; injection e with e; omega)
    simpa using hd.set_ 0 (.slice (some ⟨g, 0, none⟩) (n - 1) c)
  · refine (ho.kept g4 (.inr ?_)).kept g5 (.inr ?_)
    · simpa [Value.ownBlock] using hgn'
    · simp [Value.ownBlock]; omega
  · refine Chg.trans (S' := fun k => k = w.heap.size) (Chg.trans (S' := fun k => k = nn) (Chg.trans (S' := fun k => k = g) (Chg.of_below hB (NetS nn (.slice (some ⟨g, 0, none⟩) n c))) (Chg.of_grown hg (fun k e => by injection e)) (fun k _ e => .inr (by simp [Value.ownBlock, e]))) (Chg.of_grown g4 (fun k e => by injection e)) (fun k _ e => .inl e)) (Chg.of_grown g5 (fun k e => by injection e)) (fun k hk e => by omega)
theorem box4_fin {w3 : World} {nn g : Nat} {t t2 : TypeId} {cs : Array Value} {a b c : Value} (hd : Blk w3 nn t2 cs) (h : Blk w3 g t #[a, b, c]) (hn : nn ≠ g) (v' x y z : Value) :
    Blk ((((w3.setCell ⟨nn, 0, none⟩ v').setCell ⟨g, 0, none⟩ x).setCell ⟨g, 1, none⟩ y).setCell ⟨g, 2, none⟩ z) g t #[x, y, z] := by
  have := (((h.far (p := ⟨nn, 0, none⟩) (fun e => hn e.symm) v').set_ 0 x).set_ 1 y).set_ 2 z
  simpa using this
set_option maxRecDepth 100000 in
set_option maxHeartbeats 1000000 in
theorem ntake_in {w : World} {base nn : Nat} {v : Value} {F : List Pk} {sp : Int} (h : Nt w base nn v F sp) (hF : F.length ≤ 500) (k : Nat) (hk : k < F.length) (p : Pk) (hp : F[k] = p) :
    Calls Tryd.prog 65 #[.pointer (some ⟨nn, 0, none⟩), .int .i64 k] w (NtRes w base nn v (F.eraseIdx k) sp (fun x => x = .tuple #[.agg (pkv p), .bool true])) := by
  have H := hid h
  obtain ⟨A, c, rfl, _, _, hrow⟩ := pk_row h.r
  obtain ⟨g, cur, rfl, hg1, hg2, hb, hs, ht⟩ := hrow (by intro e; subst e; simp at hk)
  obtain ⟨k0, k1, k2⟩ := pk_cell hb ht hk
  obtain ⟨d0, d1⟩ := nt2 h
  have f0 := h.d.frozen 0
  have hz := h.d.lt
  have hk1 : (k : Int) < F.length := by omega
  rw [hp] at k0 k1 k2
  obtain ⟨pa, pb, ps⟩ := p
  simp only at k0 k1 k2
  have hgn := hid (own_blk_ne (g := nn) h.r h.d (by decide))
  have hgs := hid hg2
  clear h hrow hb hs ht hp hg1
  go_enter Tryd.func65, Tryd.ntmps65
  have H2 := hid ((H.out.alloc (Obj.cells (pkv (0, 0, ⟨#[]⟩)) 76)).alloc (Obj.cells (pkv (pa, pb, ps)) 76))
  have hB2 := hid (show Below w.heap.size w ((w.alloc (Obj.cells (pkv (0, 0, ⟨#[]⟩)) 76)).alloc (Obj.cells (pkv (pa, pb, ps)) 76)) by (repeat (first | exact Below.refl _ _ | assumption | refine below_drewN ?_ _ | refine Below.drew ?_ | refine Below.alloc ?_ (by (try simp); (try omega)) _ | refine Below.setCell ?_ (by (try simp); (try omega)) _)))
  go_wp2_with fail
  refine (delete_any base g c F k hk _ H2.out.r).mono ?_
  rintro e w3 ⟨rfl, ho3, hg3⟩
  have hg3 : ((w.alloc (Obj.cells (pkv (0, 0, ⟨#[]⟩)) 76)).alloc (Obj.cells (pkv (pa, pb, ps)) 76)).grownBy w3 (some g) := hg3
  have X3 := hid (Blk.new_at (w := w.alloc (Obj.cells (pkv (0, 0, ⟨#[]⟩)) 76)) (t := 76) (cs := pkv (pa, pb, ps)) (g := w.heap.size + 1) (by simp))
  have X4 := hid ((Blk.new w 76 (pkv (0, 0, ⟨#[]⟩))).alloc (Obj.cells (pkv (pa, pb, ps)) 76))
  have d3 := Blk.grown H2.out.d hg3 (fun e => hgn.out e.symm)
  have b3 := Blk.grown X3.out hg3 (by intro e; injection e with e; omega)
  have b4 := Blk.grown X4.out hg3 (by intro e; injection e with e; omega)
  have hx0 := d3.cell 0; have hx1 := d3.cell 1; have hf0 := d3.frozen 0; have hzn := d3.lt
  have hb0 := b3.cell 0; have hb1 := b3.cell 1; have hb2 := b3.cell 2
  have hc0 := b4.cell 0; have hc1 := b4.cell 1; have hc2 := b4.cell 2; have hcf0 := b4.frozen 0; have hcf1 := b4.frozen 1; have hcf2 := b4.frozen 2; have hzb := b3.lt; have hzc := b4.lt
  simp at hx0 hx1 hb0 hb1 hb2 hc0 hc1 hc2
  have B4 := hid b4; have D3 := hid d3; have O3 := hid ho3; have G3 := hid hg3
  have n1 : nn ≠ w.heap.size := by omega
  have n2 : nn ≠ w.heap.size + 1 := by omega
  have n3 : w.heap.size ≠ nn := by omega
  have n4 : w.heap.size + 1 ≠ nn := by omega
  clear d3 b3 b4 ho3 hg3 k0 k1 k2 d0 d1 f0 hz
  go_wp2_with fail
  have hb9 := box4_fin D3.out B4.out n1 (.slice (some ⟨g, 0, none⟩) (F.length - 1) c) (.int .i64 pa) (.int .i64 pb) (.string ps)
  refine bodyPost_ret (results_row_tmp Tryd.results65 _ _ w.heap.size 76 (pkv (pa, pb, ps)) (0, 0) _ rfl hb9 Tryd.underlying76 rfl (by kernel_rfl)) rfl ?_
  have hfin := take_fin H2.out hB2.out D3.out O3.out G3.out hgn.out hgs.out n1 (.int .i64 pa) (.int .i64 pb) (.string ps)
  exact ⟨_, _, rfl, rfl, hfin.1, hfin.2, fun _ h => .inl h⟩
set_option maxRecDepth 100000 in
set_option maxHeartbeats 1000000 in
theorem ntake_out {w : World} {base nn : Nat} {v : Value} {F : List Pk} {sp : Int} (h : Nt w base nn v F sp) (i : Int) (hi : i < 0 ∨ (F.length : Int) ≤ i) :
    Calls Tryd.prog 65 #[.pointer (some ⟨nn, 0, none⟩), .int .i64 i] w (NtRes w base nn v F sp (fun x => x = .tuple #[.agg (pkv (0, 0, ⟨#[]⟩)), .bool false])) := by
  have H := hid h
  obtain ⟨A, c, rfl, _, _, _⟩ := pk_row h.r
  obtain ⟨d0, d1⟩ := nt2 h
  have hz := h.d.lt
  have hB2 := hid (show Below w.heap.size w (w.alloc (Obj.cells (pkv (0, 0, ⟨#[]⟩)) 76)) by (repeat (first | exact Below.refl _ _ | assumption | refine below_drewN ?_ _ | refine Below.drew ?_ | refine Below.alloc ?_ (by (try simp); (try omega)) _ | refine Below.setCell ?_ (by (try simp); (try omega)) _)))
  clear h
  rcases hi with hi | hi
  all_goals
    go_enter Tryd.func65, Tryd.ntmps65
    go_wp2_with fail
    refine bodyPost_ret (v := .tuple #[.agg #[.int .i64 0, .int .i64 0, .string ⟨#[]⟩], .bool false]) (by simp [results, Tryd.results65, go_sem]) rfl ?_
    exact H.out.same rfl hB2.out
theorem ntake_any {w : World} {base nn : Nat} {v : Value} {F : List Pk} {sp : Int} (h : Nt w base nn v F sp) (hF : F.length ≤ 500) (i : Int) :
    Calls Tryd.prog 65 #[.pointer (some ⟨nn, 0, none⟩), .int .i64 i] w (NtRes w base nn v (dropN F i) sp (fun x => x = .tuple #[.agg (pkv (getN F i)), .bool (decide (0 ≤ i ∧ i < F.length))])) := by
  by_cases hi : 0 ≤ i ∧ i < F.length
  · obtain ⟨k, rfl⟩ : ∃ k : Nat, i = k := ⟨i.toNat, by omega⟩
    have hk : k < F.length := by omega
    have hd : decide (0 ≤ (k : Int) ∧ (k : Int) < F.length) = true := by simpa using hk
    rw [getN_yes hk, dropN_yes hk, hd]
    exact ntake_in h hF k hk _ rfl
  · have hd : decide (0 ≤ i ∧ i < F.length) = false := by simpa using hi
    rw [getN_no hi, dropN_no hi, hd]
    exact ntake_out h i (by omega)
/-- What Deliver returns. -/
def delN (F : List Pk) (sp : Int) (i : Int) : Pk × Int := if 0 ≤ i ∧ i < F.length then (if sp = 0 then (getN F i, 0) else ((0, 0, ⟨#[]⟩), 10)) else ((0, 0, ⟨#[]⟩), 4)
abbrev set3 (w : World) (g : Nat) (x y z : Value) : World := ((w.setCell ⟨g, 0, none⟩ x).setCell ⟨g, 1, none⟩ y).setCell ⟨g, 2, none⟩ z
theorem set3_grown (w : World) (g : Nat) (x y z : Value) : w.grownBy (set3 w g x y z) (some g) := grown_tr (grown_tr (grown_s _ _ 0 _) (grown_s _ _ 1 _)) (grown_s _ _ 2 _)
theorem set3_blk {w : World} {g : Nat} {t : TypeId} {a b c : Value} (h : Blk w g t #[a, b, c]) (x y z : Value) : Blk (set3 w g x y z) g t #[x, y, z] := by
  have := ((h.set_ 0 x).set_ 1 y).set_ 2 z
  simpa using this
/-- A box of the call's own is written at last. -/
theorem box_fin {w w4 : World} {base nn : Nat} {v v' : Value} {F F' : List Pk} {sp sp' : Int} (h : Nt w base nn v F sp) (N : Nt w4 base nn v' F' sp') (C : Chg w w4 (NetS nn v)) (hv : ∀ g, v'.ownBlock = some g → v.ownBlock = some g ∨ w.heap.size + 1 ≤ g) (x y z : Value) :
    Nt (set3 w4 w.heap.size x y z) base nn v' F' sp' ∧ Chg w (set3 w4 w.heap.size x y z) (NetS nn v) := by
  have hg := set3_grown w4 w.heap.size x y z
  have hnn := h.d.lt
  refine ⟨⟨N.d.grown hg (by intro e; injection e with e; omega), N.r.kept hg ?_⟩, Chg.trans (S' := fun k => k = w.heap.size) C (Chg.of_grown hg (fun k e => by injection e)) (fun k hk e => by omega)⟩
  cases ho : v'.ownBlock with
  | none => exact .inl rfl
  | some g =>
    refine .inr ?_
    intro e
    injection e with e
    rcases hv g ho with h1 | h1
    · have := h.fresh (.inr h1); omega
    · omega
set_option maxRecDepth 100000 in
set_option maxHeartbeats 1000000 in
theorem ndeliver_any {w : World} {base nn : Nat} {v : Value} {F : List Pk} {sp : Int} (h : Nt w base nn v F sp) (hsp : sp = 0 ∨ sp = 1) (hF : F.length ≤ 500) (i : Int) (hE : ∀ p ∈ F, Ends p.1 p.2.1) :
    Calls Tryd.prog 67 #[.pointer (some ⟨nn, 0, none⟩), .int .i64 i] w (NtRes w base nn v (dropN F i) sp (fun x => x = .tuple #[.agg (pkv (delN F sp i).1), .int .i64 (delN F sp i).2])) := by
  have H := hid h
  have HE := hid hE
  have H1 := hid (h.alloc (Obj.cells (pkv (0, 0, ⟨#[]⟩)) 76))
  have b1 := hid (Blk.new w 76 (pkv (0, 0, ⟨#[]⟩)))
  have hB1 := hid (show Below w.heap.size w (w.alloc (Obj.cells (pkv (0, 0, ⟨#[]⟩)) 76)) by (repeat (first | exact Below.refl _ _ | assumption | refine below_drewN ?_ _ | refine Below.drew ?_ | refine Below.alloc ?_ (by (try simp); (try omega)) _ | refine Below.setCell ?_ (by (try simp); (try omega)) _)))
  have hzn := hid h.d.lt
  clear h hE
  go_enter Tryd.func67, Tryd.ntmps67
  go_wp2_with fail
  refine (ntake_any H1.out hF i).mono ?_
  rintro e w2 ⟨x, v2, rfl, rfl, N2, C2, V2⟩
  have hb2 := C2.blk b1.out (by intro hk; have := H.out.fresh hk; omega)
  have C2' := hid (Chg.trans (S' := NetS nn v) (Chg.of_below hB1.out (NetS nn v)) C2 (fun k _ h => h))
  have V2' := hid (show ∀ g, v2.ownBlock = some g → v.ownBlock = some g ∨ w.heap.size + 1 ≤ g from fun g hg => (V2 g hg).imp id (fun h => by simpa using h))
  have n2 := hid N2
  have B2 := hid hb2
  have hz2 := hid C2.size
  clear N2 C2 V2 hb2 b1 hB1 H1
  by_cases hi : 0 ≤ i ∧ i < F.length
  · have hd : decide (0 ≤ i ∧ i < F.length) = true := by simpa using hi
    have hde := hid (show delN F sp i = if sp = 0 then (getN F i, 0) else ((0, 0, ⟨#[]⟩), 10) by unfold delN; rw [if_pos hi])
    have hEn : Ends (getN F i).1 (getN F i).2.1 := by
      obtain ⟨k, rfl⟩ : ∃ k : Nat, i = k := ⟨i.toNat, by omega⟩
      have hk : k < F.length := by omega
      rw [getN_yes hk]
      exact HE.out _ (List.getElem_mem hk)
    rw [hd]
    clear hd hi
    generalize getN F i = p at *
    obtain ⟨pa, pb, ps⟩ := p
    have HEn := hid hEn
    clear hEn
    go_wp2_with fail
    have N3 := hid (n2.out.alloc (Obj.cells (pkv (pa, pb, ps)) 76))
    have C3 := hid (Chg.trans (S' := NetS nn v) C2'.out (Chg.of_below (w := w2) (w' := w2.alloc (Obj.cells (pkv (pa, pb, ps)) 76)) (by (repeat (first | exact Below.refl _ _ | assumption | refine below_drewN ?_ _ | refine Below.drew ?_ | refine Below.alloc ?_ (by (try simp); (try omega)) _ | refine Below.setCell ?_ (by (try simp); (try omega)) _))) _) (fun k _ h => h))
    have B3 := hid (B2.out.alloc (Obj.cells (pkv (pa, pb, ps)) 76))
    have x3 := hid (Blk.new w2 76 (pkv (pa, pb, ps)))
    refine (nhear_any N3.out hsp pa pb HEn.out).mono ?_
    rintro e w4 ⟨rfl, hB4⟩
    have N4 := hid (N3.out.below hB4)
    have C4 := hid (Chg.trans (S' := NetS nn v) C3.out (Chg.of_below hB4 _) (fun k _ h => h))
    have B4 := hid (B3.out.below hB4 B3.out.lt)
    have x4 := x3.out.below hB4 x3.out.lt
    have a0 := x4.cell 0; have a1 := x4.cell 1; have a2 := x4.cell 2; have hzx := x4.lt
    have c0 := B4.out.cell 0; have c1 := B4.out.cell 1; have c2 := B4.out.cell 2; have hzc := B4.out.lt
    have f0 := B4.out.frozen 0; have f1 := B4.out.frozen 1; have f2 := B4.out.frozen 2
    simp at a0 a1 a2 c0 c1 c2
    have n1 : w.heap.size ≠ w2.heap.size := by have := B2.out.lt; omega
    have n2' : w2.heap.size ≠ w.heap.size := by have := B2.out.lt; omega
    clear hB4 x4 N3 C3 B3 x3 n2 C2'
    rcases hsp with rfl | rfl
    · have he9 := hid (show delN F 0 i = ((pa, pb, ps), 0) by rw [hde.out]; rfl)
      clear hde
      go_wp2_with fail
      have hb9 := set3_blk B4.out (.int .i64 pa) (.int .i64 pb) (.string ps)
      refine bodyPost_ret (results_row_tmp Tryd.results67 _ _ w.heap.size 76 (pkv (pa, pb, ps)) (0, 0) _ rfl hb9 Tryd.underlying76 rfl (by kernel_rfl)) rfl ?_
      rw [he9.out]
      have hfin := box_fin H.out N4.out C4.out V2'.out (.int .i64 pa) (.int .i64 pb) (.string ps)
      exact ⟨_, _, rfl, rfl, hfin.1, hfin.2, fun g hg => (V2'.out g hg).imp id (fun h => by omega)⟩
    · have he9 := hid (show delN F 1 i = ((0, 0, ⟨#[]⟩), 10) by rw [hde.out]; rfl)
      clear hde
      go_wp2_with fail
      have hb9 := set3_blk B4.out (.int .i64 0) (.int .i64 0) (.string ⟨#[]⟩)
      refine bodyPost_ret (results_row_tmp Tryd.results67 _ _ w.heap.size 76 (pkv (0, 0, ⟨#[]⟩)) (0, 0) _ rfl hb9 Tryd.underlying76 rfl (by kernel_rfl)) rfl ?_
      rw [he9.out]
      have hfin := box_fin H.out N4.out C4.out V2'.out (.int .i64 0) (.int .i64 0) (.string ⟨#[]⟩)
      exact ⟨_, _, rfl, rfl, hfin.1, hfin.2, fun g hg => (V2'.out g hg).imp id (fun h => by omega)⟩
  · have hd : decide (0 ≤ i ∧ i < F.length) = false := by simpa using hi
    have hde := hid (show delN F sp i = ((0, 0, ⟨#[]⟩), 4) by unfold delN; rw [if_neg hi])
    rw [hd, getN_no hi]
    clear hd hi
    have c0 := B2.out.cell 0; have c1 := B2.out.cell 1; have c2 := B2.out.cell 2; have hzc := B2.out.lt
    have f0 := B2.out.frozen 0; have f1 := B2.out.frozen 1; have f2 := B2.out.frozen 2
    simp at c0 c1 c2
    go_wp2_with fail
    have hb9 := (set3_blk B2.out (.int .i64 0) (.int .i64 0) (.string ⟨#[]⟩)).alloc (Obj.cells (pkv (0, 0, ⟨#[]⟩)) 76)
    refine bodyPost_ret (results_row_tmp Tryd.results67 _ _ w.heap.size 76 (pkv (0, 0, ⟨#[]⟩)) (0, 0) _ rfl hb9 Tryd.underlying76 rfl (by kernel_rfl)) rfl ?_
    rw [hde.out]
    have hfin := box_fin H.out n2.out C2'.out V2'.out (.int .i64 0) (.int .i64 0) (.string ⟨#[]⟩)
    exact ⟨_, _, rfl, rfl, hfin.1.alloc _, Chg.trans (S' := NetS nn v) hfin.2 (Chg.of_below (by (repeat (first | exact Below.refl _ _ | assumption | refine below_drewN ?_ _ | refine Below.drew ?_ | refine Below.alloc ?_ (by (try simp); (try omega)) _ | refine Below.setCell ?_ (by (try simp); (try omega)) _))) _) (fun k _ h => h), fun g hg => (V2'.out g hg).imp id (fun h => by omega)⟩
theorem ndrop_any {w : World} {base nn : Nat} {v : Value} {F : List Pk} {sp : Int} (h : Nt w base nn v F sp) (hF : F.length ≤ 500) (i : Int) :
    Calls Tryd.prog 35 #[.pointer (some ⟨nn, 0, none⟩), .int .i64 i] w (NtRes w base nn v (dropN F i) sp (fun x => ∃ n, x = .int .i64 n)) := by
  have H := hid h
  clear h
  go_enter Tryd.func35, Tryd.ntmps35
  go_wp2_with fail
  refine (ntake_any H.out hF i).mono ?_
  rintro e w2 ⟨x, v2, rfl, rfl, N2, C2, V2⟩
  have n2 := hid N2
  have c2 := hid C2
  have V2' := hid V2
  clear N2 C2 V2
  generalize decide (0 ≤ i ∧ i < F.length) = bb
  generalize getN F i = p
  obtain ⟨pa, pb, ps⟩ := p
  have N3 := hid (n2.out.alloc (Obj.cells (pkv (pa, pb, ps)) 76))
  have C3 := hid (Chg.trans (S' := NetS nn v) c2.out (Chg.of_below (w := w2) (w' := w2.alloc (Obj.cells (pkv (pa, pb, ps)) 76)) (by (repeat (first | exact Below.refl _ _ | assumption | refine below_drewN ?_ _ | refine Below.drew ?_ | refine Below.alloc ?_ (by (try simp); (try omega)) _ | refine Below.setCell ?_ (by (try simp); (try omega)) _))) _) (fun k _ h => h))
  cases bb
  all_goals
    go_wp2_with fail
    go_ret
    exact ⟨_, _, rfl, ⟨_, rfl⟩, N3.out, C3.out, V2'.out⟩
end Go.Proofs.YtfofmbmmighdiaaDoor
