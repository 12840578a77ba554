
/- Table: TableRefuses, the walk (printed by gen_tabw_rest.py, gen_tabw.py behind XTabW.head, XTabW.loop). -/
import Derived.Test.YtdjjhflhdhihcaaTabU
set_option linter.unusedSimpArgs false
set_option linter.unusedVariables false
namespace Go.Proofs.Ytdjjhflhdhihcaa
open Go.RowKit Go.IntWalk Go.Shelf

theorem slr_take {T : Type} [Rep T] {w : World} {B : Nat} {A : Option Addr} {l : List T} (h : SlR w B A l) (n : Nat) : SlR w B A (l.take n) := by
  intro k x hx
  rw [List.getElem?_take] at hx
  split at hx
  · exact h k x hx
  · cases hx
theorem slr_drop {T : Type} [Rep T] {w : World} {B b off : Nat} {l : List T} (h : SlR w B (some ⟨b, off, none⟩) l) (n : Nat) : SlR w B (some ⟨b, off + n * Rep.size T, none⟩) (l.drop n) := by
  intro k x hx
  rw [List.getElem?_drop] at hx
  obtain ⟨b', off', es, hA, hb, hs, hc, hr⟩ := h (n + k) x hx
  injection hA with hA
  injection hA with e1 e2 _
  subst e1 e2
  refine ⟨b, off + n * Rep.size T, es, rfl, hb, hs, fun j u hu => ?_, hr⟩
  have := hc j u hu
  rw [Nat.add_mul, ← Nat.add_assoc] at this
  exact this
/-- What lies behind the i-th row: where no room is left the address stays. -/
theorem slr_last {w : World} {B b off c i : Nat} {rows : List Row} (h : SlR w B (some ⟨b, off, none⟩) rows) (hc : rows.length ≤ c) (hi : i < rows.length) : SlR w B (if c = i + 1 then some ⟨b, off, none⟩ else some ⟨b, off + (i + 1) * 3, none⟩) (rows.drop (i + 1)) := by
  by_cases e : c = i + 1
  · rw [List.drop_of_length_le (by omega)]
    exact SlR.nil
  · rw [if_neg e]
    exact slr_drop h (i + 1)
def BoolIs (v : Value) (P : Prop) : Prop := ∃ b : Bool, v = .bool b ∧ (b = true → P)
theorem rows_ok {w : World} {B : Nat} {A : Option Addr} {rows : List Row} (h : SlR w B A rows) : ∀ x ∈ rows, rwRK.ok x := rwRK.oks h
theorem own_empty (w : World) : rwRK.Own (w.alloc (Obj.cells #[] 33)) w.heap.size (.slice (some ⟨w.heap.size, 0, none⟩) 0 0) [] :=
  RK.Own.fresh (R := rwRK) (l := []) (base := w.heap.size) (show Blk (w.alloc (Obj.cells #[] 33)) w.heap.size rwRK.e (rwRK.all []).toArray from Blk.new _ _ _) (Nat.le_refl _) (by simp)
set_option maxRecDepth 100000 in
set_option maxHeartbeats 16000000 in
theorem trefuses_any (Ag Am B : Option Addr) (cg cm c : Nat) (g : Gm) (rows : List Row) (at_ act : Int) (w : World) (h : GmR w w.heap.size Ag Am g) (hl : rows.length ≤ maxLen) (hc : rows.length ≤ c) (hcm : c ≤ maxLen) (h1 : SlR w w.heap.size B rows) (hact : I64 act) :
    Calls Try.prog 3 #[.agg #[.slice Ag g.1.length cg, .slice Am g.2.length cm], .slice B rows.length c, .int .i64 at_, .int .i64 act] w fun e w' => e = .returned (.bool true) ∧ Below w.heap.size w w' := by
  unfold maxLen at hl hcm
  obtain ⟨w1, hw1⟩ : ∃ w1, w1 = w.alloc (Obj.cells #[.slice Ag g.1.length cg, .slice Am g.2.length cm] 25) := ⟨_, rfl⟩
  have B1 := hid (show Below w.heap.size w w1 by rw [hw1]; (repeat (first | exact Below.refl _ _ | assumption | refine below_drewN ?_ _ | refine Below.drew ?_ | refine Below.alloc ?_ (by (try simp); (try omega)) _ | refine Below.setCell ?_ (by (try simp); (try omega)) _)))
  have X1 := hid (show Blk w1 w.heap.size 25 #[.slice Ag g.1.length cg, .slice Am g.2.length cm] by rw [hw1]; exact Blk.new w _ _)
  have H := hid h; have HR := hid h1
  have HS := hid (tsmall_any w1)
  have HF := hid (fun (W : World) (hW : Below w.heap.size w W) => fair_any Ag Am B cg cm c g rows W (h.to hW) hl)
  have HRO := hid (rows_ok h1)
  have HACTI := hid hact
  clear h h1
  go_enter Try.func3, Try.ntmps3
  go_upto_region 1 with fail
  rw [← hw1]
  clear hw1
  go_wp2_with fail
  refine HS.out.mono ?_
  rintro e w2 ⟨rfl, hB⟩
  have B2 := hid (B1.out.trans (hB.mono B1.out.size))
  have X2 := hid (X1.out.below hB X1.out.lt)
  have HC := hid (HF.out w2 B2.out)
  clear hB HS HF B1 X1
  have x0 := X2.out.cell 0; have x1 := X2.out.cell 1; have xz := X2.out.lt
  simp at x0 x1
  go_wp2_with fail
  refine HC.out.mono ?_
  rintro e w3 ⟨rfl, hB⟩
  have B3 := hid (B2.out.trans (hB.mono B2.out.size))
  have X3 := hid (X2.out.below hB X2.out.lt)
  clear hB HC B2 X2 x0 x1 xz
  cases hf : fairL g rows with
  | false =>
    as_aux_lemma =>
      go_wp2_with fail
      go_ret
      exact ⟨rfl, B3.out⟩
  | true =>
  obtain ⟨hrt, hok, h60⟩ := fair_parts hf
  have HRT := hid hrt
  have HCK := hid (fun (W : World) (hW : Below w.heap.size w W) (A : Option Addr) (c : Nat) (rs : List Row) (hl : rs.length ≤ 1000000) (hs : SlR W W.heap.size A rs) => check_any Ag Am A cg cm c g rs W (H.out.to hW) hrt hok hl hs)
  have HFO := hid (fun (W : World) (hW : Below w.heap.size w W) (ha : Asc kP rows) (p : Int) (D : Option Addr) (hs : SlR W W.heap.size D [act]) => follow_any Ag Am B D cg cm c 1 g rows p [act] W (H.out.to hW) hrt hok (by omega) ha ((HR.out.below hW).more hW.size) (by simp) hs)
  clear hf hrt hok
  by_cases ha0 : at_ < 0
  case pos =>
    as_aux_lemma =>
      go_wp2_with fail
      go_ret
      exact ⟨rfl, B3.out⟩
  obtain ⟨i, rfl⟩ := Int.eq_ofNat_of_zero_le (show 0 ≤ at_ by omega)
  by_cases hil : i < rows.length
  case neg =>
    have hilI : (rows.length : Int) ≤ i := by omega
    as_aux_lemma =>
      go_wp2_with fail
      go_ret
      exact ⟨rfl, B3.out⟩
  have hilI : ¬ (rows.length : Int) ≤ i := by omega
  have hilJ : (i : Int) < rows.length := by omega
  have x0 := X3.out.cell 0; have x1 := X3.out.cell 1; have xz := X3.out.lt
  simp at x0 x1
  have HC := hid (HCK.out w3 B3.out B c rows (by omega) ((HR.out.below B3.out).more B3.out.size))
  go_wp2_with fail
  refine HC.out.mono ?_
  rintro e w4 ⟨k4, cc4, rfl, hck, hB⟩
  have B4 := hid (B3.out.trans (hB.mono B3.out.size))
  have X4 := hid (X3.out.below hB X3.out.lt)
  clear hB HC B3 X3 x0 x1 xz
  by_cases hc0 : cc4 = 0
  case neg =>
    as_aux_lemma =>
      go_wp2_with fail
      go_ret
      exact ⟨rfl, B4.out⟩
  subst hc0
  obtain ⟨hasc, hgd⟩ := hck.ok
  have HASC := hid hasc
  obtain ⟨q0, q1, q2, hq⟩ : ∃ q0 q1 q2, rows[i] = (q0, q1, q2) := ⟨_, _, _, rfl⟩
  have HQ := hid hq
  have HLOW := hid (show 0 < q2 → ∀ (k c : Int), ChkR g (rows.set i (q0, q1, 0)) k c → c = 25 ∧ k ≤ i from fun hr k c h => ref_low hasc hgd hil (by rw [hq]; exact hr) (by rw [hq]; exact h))
  have HUP := hid (show q2 = 0 → ∀ (k c : Int), ChkR g (rows.set i (q0, q1, 1000)) k c → c = 25 from fun hr k c h => ref_up hasc hgd hil (by rw [hq]; exact hr) (by rw [hq]; exact h))
  have HTW := hid (fun (k c : Int) (h : ChkR g (rows.take (i + 1) ++ rows.drop i) k c) => ref_twice hasc hil h)
  have HLS := hid (fun (q : Nat) (hq : q < rows.length) (hqi : q ≠ i) (hs : stepF g rows rows[q].1 act = some q0) (k c : Int) (h : ChkR g (rows.take i ++ rows.drop (i + 1)) k c) => ref_less hasc hil hq hqi HRT.out (by rw [HQ.out]; exact hs) h)
  have HIP := hid (fun (q : Nat) (hq : q < rows.length) => (good_parts (hgd _ (List.getElem_mem hq))).1)
  have HGR := hid (fun (W : World) (hW : Below w.heap.size w W) => ((HR.out.below hW).more hW.size))
  have HXO := hid (show rwRK.ok (q0, q1, q2) by rw [← hq]; exact HRO.out _ (List.getElem_mem hil))
  have hcase : q2 = 0 ∨ 0 < q2 := by
    obtain ⟨-, ⟨-, -, e⟩ | ⟨-, e, -⟩⟩ := good_parts (hgd _ (List.getElem_mem hil)) <;> rw [hq] at e <;> simp only at e <;> omega
  have HSET := hid (fun (y : Row) (hy : rwRK.ok y) => show ∀ x ∈ rows.set i y, rwRK.ok x from fun x hx => by
    rcases List.mem_or_eq_of_mem_set hx with hx | rfl
    · exact HRO.out x hx
    · exact hy)
  clear hck hasc hgd
  obtain ⟨b, off, rfl, hbz, c1, c2, c3, -⟩ := HR.out.row hil
  rw [hq] at c1 c2 c3
  simp only at c1 c2 c3
  replace c1 := (bcell B4.out b _ hbz).trans c1
  replace c2 := (bcell B4.out b _ hbz).trans c2
  replace c3 := (bcell B4.out b _ hbz).trans c3
  have hz : b < w4.heap.size := by have := B4.out.size; omega
  have HU90 := hid (show q2 = 0 → IntKind.i64.wrap (q2 + 1000) = 1000 from fun e => by subst e; exact IntWalk.i64_in _ (by omega))
  have HU9 := hid (show I64 (IntKind.i64.wrap (q2 + 1000)) by rw [IntKind.wrap_i64]; unfold I64; omega)
  obtain ⟨u9, hu9⟩ : ∃ u9, IntKind.i64.wrap (q2 + 1000) = u9 := ⟨_, rfl⟩
  rw [hu9] at HU9 HU90
  clear hq
  obtain ⟨w5, hw5⟩ : ∃ w5, w5 = w4.alloc (Obj.cells #[.int .i64 q0, .int .i64 q1, .int .i64 q2] 33) := ⟨_, rfl⟩
  have b5 := hid (show Below w4.heap.size w4 w5 by rw [hw5]; (repeat (first | exact Below.refl _ _ | assumption | refine below_drewN ?_ _ | refine Below.drew ?_ | refine Below.alloc ?_ (by (try simp); (try omega)) _ | refine Below.setCell ?_ (by (try simp); (try omega)) _)))
  have Y5 := hid (show Blk w5 w4.heap.size 33 #[.int .i64 q0, .int .i64 q1, .int .i64 q2] by rw [hw5]; exact Blk.new w4 _ _)
  have B5 := hid (B4.out.trans (b5.out.mono B4.out.size))
  have X5 := hid (X4.out.below b5.out X4.out.lt)
  go_upto_region 8 with fail
  rw [← hw5]
  clear hw5 c1 c2 c3 hz X4 b5
  generalize w4.heap.size = yb at *
  have b6a := hid (show Below w5.heap.size w5 (w5.alloc (Obj.cells #[] 33)) by (repeat (first | exact Below.refl _ _ | assumption | refine below_drewN ?_ _ | refine Below.drew ?_ | refine Below.alloc ?_ (by (try simp); (try omega)) _ | refine Below.setCell ?_ (by (try simp); (try omega)) _)))
  have O6a := hid (own_empty w5)
  have S6a := hid (HGR.out _ (B5.out.trans (b6a.out.mono B5.out.size)))
  have hlen6 := hid (show ([] : List Row).length + rows.length ≤ 100000000 by simp; omega)
  go_upto_region 9 with (at_builtin; refine rwRK.appL _ rfl (.tmp 57) (.tmp 58) rfl rfl O6a.out (ys := rows) (c := c) rfl S6a.out hlen6.out b6a.out.size ?_; intro A6 c6 w6 ho hg; have O6b := hid ho; have b6 := hid (b6a.out.grown hg b6a.out.size (fun q e => (own_blk O6a.out q e).1)); clear ho hg)
  rw [List.length_nil, Nat.zero_add, List.nil_append] at O6b
  clear O6a S6a hlen6 b6a
  obtain ⟨g6, cap6, cur6, hv, hg6, -⟩ := own_cell O6b.out (show 0 < rows.length by omega)
  injection hv with hv hv2 hv3
  subst hv hv3
  clear hv2
  obtain ⟨hgz, -, hcell, hfr⟩ := RK.Own.at_ O6b.out hil
  have hcell2 := hcell 2 (by decide)
  have hfr2 := hfr (i * 3 + 2)
  rw [HQ.out] at hcell2
  replace hcell2 : w6.cell? ⟨g6, i * 3 + 2, none⟩ = some (.int .i64 q2) := hcell2
  have O6c := hid (show rwRK.Own (w6.setCell ⟨g6, i * 3 + 2, none⟩ (.int .i64 (0))) w5.heap.size (.slice (some ⟨g6, 0, none⟩) rows.length c6) (rows.set i (q0, q1, 0)) from RK.Own.set_ O6b.out hil (j := 2) (by decide) (by rw [HQ.out]; rfl))
  have b6c := hid (b6.out.setCell (p := ⟨g6, i * 3 + 2, none⟩) hg6 (.int .i64 (0)))
  have X6 := hid (X5.out.below b6.out X5.out.lt)
  have Y6 := hid (Y5.out.below b6.out Y5.out.lt)
  have y2 := Y6.out.cell 2; have yz := Y6.out.lt
  simp at y2
  clear hcell hfr
  go_upto_region 10 with fail
  generalize (w6.setCell ⟨g6, i * 3 + 2, none⟩ (.int .i64 (0))) = w6s at *
  clear hcell2 hfr2 hgz y2 yz X6 Y6
  have B6 := hid (B5.out.trans (b6c.out.mono B5.out.size))
  have X6 := hid (X5.out.below b6c.out X5.out.lt)
  have Y6 := hid (Y5.out.below b6c.out Y5.out.lt)
  obtain ⟨A6x, c6x, hv, -, -, hs⟩ := RK.Own.slr O6c.out (HSET.out (q0, q1, 0) ⟨HXO.out.1, HXO.out.2.1, i64s 0 (by omega)⟩)
  injection hv with hv hv2 hv3
  subst hv hv3
  clear hv2
  have HC := hid (HCK.out w6s B6.out (some ⟨g6, 0, none⟩) c6 _ (by rw [List.length_set]; omega) hs)
  rw [List.length_set] at HC
  have x0 := X6.out.cell 0; have x1 := X6.out.cell 1; have xz := X6.out.lt
  have y2 := Y6.out.cell 2; have yz := Y6.out.lt
  simp at x0 x1 y2
  clear hs O6b O6c b6 b6c
  rcases hcase with e | hr
  · subst e
    have e9 := HU90.out rfl
    subst e9
    go_wp2_with fail
    refine HC.out.mono ?_
    rintro e w7 ⟨k7, cc7, rfl, hck, hB⟩
    have B7 := hid (B6.out.trans (hB.mono B6.out.size))
    have X7 := hid (X6.out.below hB X6.out.lt)
    have Y7 := hid (Y6.out.below hB Y6.out.lt)
    clear hB HC B6 X6 Y6 x0 x1 xz y2 yz
    clear hck
    have y0 := Y7.out.cell 0; have y2 := Y7.out.cell 2; have yz := Y7.out.lt
    simp at y0 y2
    have b9a := hid (show Below w7.heap.size w7 (w7.alloc (Obj.cells #[] 33)) by (repeat (first | exact Below.refl _ _ | assumption | refine below_drewN ?_ _ | refine Below.drew ?_ | refine Below.alloc ?_ (by (try simp); (try omega)) _ | refine Below.setCell ?_ (by (try simp); (try omega)) _)))
    have O9a := hid (own_empty w7)
    have S9a := hid (HGR.out _ (B7.out.trans (b9a.out.mono B7.out.size)))
    have hlen9 := hid (show ([] : List Row).length + rows.length ≤ 100000000 by simp; omega)
    go_upto_region 14 with (at_builtin; refine rwRK.appL _ rfl (.tmp 82) (.tmp 83) rfl rfl O9a.out (ys := rows) (c := c) rfl S9a.out hlen9.out b9a.out.size ?_; intro A9 c9 w9 ho hg; have O9b := hid ho; have b9 := hid (b9a.out.grown hg b9a.out.size (fun q e => (own_blk O9a.out q e).1)); clear ho hg)
    rw [List.length_nil, Nat.zero_add, List.nil_append] at O9b
    clear O9a S9a hlen9 b9a
    obtain ⟨g9, cap9, cur9, hv, hg9, -⟩ := own_cell O9b.out (show 0 < rows.length by omega)
    injection hv with hv hv2 hv3
    subst hv hv3
    clear hv2
    obtain ⟨hgz, -, hcell, hfr⟩ := RK.Own.at_ O9b.out hil
    have hcell2 := hcell 2 (by decide)
    have hfr2 := hfr (i * 3 + 2)
    rw [HQ.out] at hcell2
    replace hcell2 : w9.cell? ⟨g9, i * 3 + 2, none⟩ = some (.int .i64 0) := hcell2
    have O9c := hid (show rwRK.Own (w9.setCell ⟨g9, i * 3 + 2, none⟩ (.int .i64 (1000))) w7.heap.size (.slice (some ⟨g9, 0, none⟩) rows.length c9) (rows.set i (q0, q1, 1000)) from RK.Own.set_ O9b.out hil (j := 2) (by decide) (by rw [HQ.out]; rfl))
    have b9c := hid (b9.out.setCell (p := ⟨g9, i * 3 + 2, none⟩) hg9 (.int .i64 (1000)))
    have X9 := hid (X7.out.below b9.out X7.out.lt)
    have Y9 := hid (Y7.out.below b9.out Y7.out.lt)
    have y2 := Y9.out.cell 2; have yz := Y9.out.lt
    simp at y2
    clear hcell hfr
    go_upto_region 15 with fail
    generalize (w9.setCell ⟨g9, i * 3 + 2, none⟩ (.int .i64 (1000))) = w9s at *
    clear hcell2 hfr2 hgz y2 yz X9 Y9
    have B9 := hid (B7.out.trans (b9c.out.mono B7.out.size))
    have X9 := hid (X7.out.below b9c.out X7.out.lt)
    have Y9 := hid (Y7.out.below b9c.out Y7.out.lt)
    obtain ⟨A9x, c9x, hv, -, -, hs⟩ := RK.Own.slr O9c.out (HSET.out (q0, q1, 1000) ⟨HXO.out.1, HXO.out.2.1, HU9.out⟩)
    injection hv with hv hv2 hv3
    subst hv hv3
    clear hv2
    have HC := hid (HCK.out w9s B9.out (some ⟨g9, 0, none⟩) c9 _ (by rw [List.length_set]; omega) hs)
    rw [List.length_set] at HC
    have x0 := X9.out.cell 0; have x1 := X9.out.cell 1; have xz := X9.out.lt
    have y2 := Y9.out.cell 2; have yz := Y9.out.lt
    simp at x0 x1 y2
    clear hs O9b O9c b9 b9c
    go_wp2_with fail
    refine HC.out.mono ?_
    rintro e w10 ⟨k10, cc10, rfl, hck, hB⟩
    have B10 := hid (B9.out.trans (hB.mono B9.out.size))
    have X10 := hid (X9.out.below hB X9.out.lt)
    have Y10 := hid (Y9.out.below hB Y9.out.lt)
    clear hB HC B9 X9 Y9 x0 x1 xz y2 yz
    obtain rfl := HUP.out (by first | rfl | trivial) _ _ hck
    clear hck
    have y0 := Y10.out.cell 0; have y2 := Y10.out.cell 2; have yz := Y10.out.lt
    simp at y0 y2
    have hi1 : IntKind.i64.wrap ((i : Int) + 1) = (i : Int) + 1 := IntWalk.i64_in _ (by omega)
    have hi1a : 0 ≤ (i : Int) + 1 := by omega
    have hi1b : (i : Int) + 1 ≤ c := by omega
    have hi2 : (i : Int) ≤ rows.length := by omega
    have hi3 : 0 ≤ (i : Int) := by omega
    have hcci2 : ¬ c = i := by omega
    have b12d := hid (show Below w10.heap.size w10 w10.drew from (Below.refl _ _).drew)
    go_upto_region 18 with fail
    refine wpIn_wide.1 (wpIn_region_S (n := 0) (fun _ => True) [] (by kernel_rfl) trivial (fun hHeld => ?_))
    generalize w10.drew = wd12 at *
    have B12d := hid (B10.out.trans (b12d.out.mono B10.out.size))
    have X12d := hid (X10.out.below b12d.out X10.out.lt)
    have Y12d := hid (Y10.out.below b12d.out Y10.out.lt)
    clear y0 y2 yz X10 Y10 B10 b12d
    refine wpAnyG_pure 1 (v := ?_) (fun _ => trivial) (by simp only [List.getElem?_toArray, List.getElem?_cons_succ, List.getElem?_cons_zero]; rfl) (by kernel_rfl) (fun _ _ _ _ _ h => h) ⟨(by rfl), (by intro c h; cases h), ?_⟩ hHeld ?_
    rotate_left
    focus (intro wS hSw; (try replace hSw := HSF.out wS hSw); (try dsimp only at hSw); go_simp; (try with_reducible rfl))
    (try simp only [Act.put, List.setIfInBounds_toArray, List.set_cons_zero, List.set_cons_succ])
    refine wpAnyG_pure 2 (v := ?_) (fun _ => trivial) (by simp only [List.getElem?_toArray, List.getElem?_cons_succ, List.getElem?_cons_zero]; rfl) (by kernel_rfl) (fun _ _ _ _ _ h => h) ⟨(by rfl), (by intro c h; cases h), ?_⟩ hHeld ?_
    rotate_left
    focus (intro wS hSw; (try replace hSw := HSF.out wS hSw); (try dsimp only at hSw); go_simp; (try with_reducible rfl))
    (try simp only [Act.put, List.setIfInBounds_toArray, List.set_cons_zero, List.set_cons_succ])
    refine wpAnyG_pure 3 (v := ?_) (fun _ => trivial) (by simp only [List.getElem?_toArray, List.getElem?_cons_succ, List.getElem?_cons_zero]; rfl) (by kernel_rfl) (fun _ _ _ _ _ h => h) ⟨(by rfl), (by intro c h; cases h), ?_⟩ hHeld ?_
    rotate_left
    focus (intro wS hSw; (try replace hSw := HSF.out wS hSw); (try dsimp only at hSw); go_simp; (try with_reducible rfl))
    (try simp only [Act.put, List.setIfInBounds_toArray, List.set_cons_zero, List.set_cons_succ])
    refine wpAnyG_pure 4 (v := ?_) (fun _ => trivial) (by simp only [List.getElem?_toArray, List.getElem?_cons_succ, List.getElem?_cons_zero]; rfl) (by kernel_rfl) (fun _ _ _ _ _ h => h) ⟨(by rfl), (by intro c h; cases h), ?_⟩ hHeld ?_
    rotate_left
    focus (intro wS hSw; (try replace hSw := HSF.out wS hSw); (try dsimp only at hSw); go_simp; (try with_reducible rfl))
    (try simp only [Act.put, List.setIfInBounds_toArray, List.set_cons_zero, List.set_cons_succ])
    refine wpAnyG_pure 6 (v := ?_) (fun _ => trivial) (by simp only [List.getElem?_toArray, List.getElem?_cons_succ, List.getElem?_cons_zero]; rfl) (by kernel_rfl) (fun _ _ _ _ _ h => h) ⟨(by rfl), (by intro c h; cases h), ?_⟩ hHeld ?_
    rotate_left
    focus (intro wS hSw; (try replace hSw := HSF.out wS hSw); (try dsimp only at hSw); go_simp; (try with_reducible rfl))
    (try simp only [Act.put, List.setIfInBounds_toArray, List.set_cons_zero, List.set_cons_succ])
    refine wpAnyG_pure 7 (v := ?_) (fun _ => trivial) (by simp only [List.getElem?_toArray, List.getElem?_cons_succ, List.getElem?_cons_zero]; rfl) (by kernel_rfl) (fun _ _ _ _ _ h => h) ⟨(by rfl), (by intro c h; cases h), ?_⟩ hHeld ?_
    rotate_left
    focus (intro wS hSw; (try replace hSw := HSF.out wS hSw); (try dsimp only at hSw); go_simp; (try with_reducible rfl))
    (try simp only [Act.put, List.setIfInBounds_toArray, List.set_cons_zero, List.set_cons_succ])
    refine wpAnyG_pure 8 (v := ?_) (fun _ => trivial) (by simp only [List.getElem?_toArray, List.getElem?_cons_succ, List.getElem?_cons_zero]; rfl) (by kernel_rfl) (fun _ _ _ _ _ h => h) ⟨(by rfl), (by intro c h; cases h), ?_⟩ hHeld ?_
    rotate_left
    focus (intro wS hSw; (try replace hSw := HSF.out wS hSw); (try dsimp only at hSw); go_simp; (try with_reducible rfl))
    (try simp only [Act.put, List.setIfInBounds_toArray, List.set_cons_zero, List.set_cons_succ])
    refine wpAnyS_ready [0] (by kernel_rfl) (by simp) (AllReadyS.cons (by simp only [List.getElem?_toArray, List.getElem?_cons_succ, List.getElem?_cons_zero]; rfl) rfl (fun K hK => ?_) AllReadyS.nil)
    go_simp
    have b12e := hid (show Below wd12.heap.size wd12 (wd12.alloc (Obj.cells #[] 33)) by (repeat (first | exact Below.refl _ _ | assumption | refine below_drewN ?_ _ | refine Below.drew ?_ | refine Below.alloc ?_ (by (try simp); (try omega)) _ | refine Below.setCell ?_ (by (try simp); (try omega)) _)))
    have O12e := hid (own_empty wd12)
    have S12e := hid (slr_take (HGR.out _ (B12d.out.trans (b12e.out.mono B12d.out.size))) (i + 1))
    have hT := hid (show (rows.take (i + 1)).length = (i + 1) by rw [List.length_take]; omega)
    obtain ⟨T12, hTT⟩ : ∃ T, T = rows.take (i + 1) := ⟨_, rfl⟩
    rw [← hTT] at hT S12e
    have HTT12 := hid hTT
    clear hTT
    refine hK.out _ _ trivial ?_
    clear hK K
    (try simp only [Act.put, List.setIfInBounds_toArray, List.set_cons_zero, List.set_cons_succ])
    refine wpAnyS_ready [5] (by kernel_rfl) (by simp) (AllReadyS.cons (by simp only [List.getElem?_toArray, List.getElem?_cons_succ, List.getElem?_cons_zero]; rfl) rfl (fun K hK => ?_) AllReadyS.nil)
    refine rwRK.appS (fun _ => trivial) (.tmp 105) (.tmp 109) rfl rfl O12e.out (ys := T12) (c := c) (by rw [hT.out]; rfl) S12e.out (by have := hT.out; simp; omega) b12e.out.size ?_
    intro A12f c12f w12f ho hg
    have O12f := hid (show rwRK.Own w12f wd12.heap.size (.slice A12f T12.length c12f) T12 by simpa using ho)
    have b12f := hid (b12e.out.grown hg b12e.out.size (fun q e => (own_blk O12e.out q e).1))
    rw [List.length_nil, Nat.zero_add]
    have S12f := hid (slr_drop (HGR.out _ (B12d.out.trans (b12f.out.mono B12d.out.size))) i)
    have hD := hid (show (rows.drop i).length = rows.length - i by rw [List.length_drop])
    obtain ⟨D12, hDD⟩ : ∃ D, D = rows.drop i := ⟨_, rfl⟩
    rw [← hDD] at hD S12f
    have HDD12 := hid hDD
    clear hDD
    refine hK.out _ _ trivial ?_
    clear hK K ho hg O12e S12e
    (try simp only [Act.put, List.setIfInBounds_toArray, List.set_cons_zero, List.set_cons_succ])
    refine wpAnyS_ready [9] (by kernel_rfl) (by simp) (AllReadyS.cons (by simp only [List.getElem?_toArray, List.getElem?_cons_succ, List.getElem?_cons_zero]; rfl) rfl (fun K hK => ?_) AllReadyS.nil)
    refine rwRK.appS (fun _ => trivial) (.tmp 110) (.tmp 113) rfl rfl O12f.out (ys := D12) (c := c - i) (by rw [hD.out]; rfl) S12f.out (by have := hT.out; have := hD.out; omega) b12f.out.size ?_
    intro A12 c12 w12 ho hg
    have O12 := hid ho
    have b12 := hid (b12f.out.grown hg b12f.out.size (fun q e => (own_blk O12f.out q e).1))
    refine hK.out _ _ trivial ?_
    clear hK K ho hg O12f S12f b12e b12f hHeld
    (try simp only [Act.put, List.setIfInBounds_toArray, List.set_cons_zero, List.set_cons_succ])
    have hHeld : True := trivial
    refine wpAnyG_pure 10 (v := ?_) (fun _ => trivial) (by simp only [List.getElem?_toArray, List.getElem?_cons_succ, List.getElem?_cons_zero]; rfl) (by kernel_rfl) (fun _ _ _ _ _ h => h) ⟨(by rfl), (by intro c h; cases h), ?_⟩ hHeld ?_
    rotate_left
    focus (intro wS hSw; (try replace hSw := HSF.out wS hSw); (try dsimp only at hSw); go_simp; (try with_reducible rfl))
    (try simp only [Act.put, List.setIfInBounds_toArray, List.set_cons_zero, List.set_cons_succ])
    refine wpAnyS_done (by kernel_rfl) ?_
    clear hHeld
    have B12 := hid (B12d.out.trans (b12.out.mono B12d.out.size))
    have X12 := hid (X12d.out.below b12.out X12d.out.lt)
    have Y12 := hid (Y12d.out.below b12.out Y12d.out.lt)
    have hall12 : ∀ x ∈ T12 ++ D12, rwRK.ok x := fun x hx => by
      rw [HTT12.out, HDD12.out] at hx
      rcases List.mem_append.1 hx with hx | hx
      · exact HRO.out x (List.mem_of_mem_take hx)
      · exact HRO.out x (List.mem_of_mem_drop hx)
    obtain ⟨A12x, c12x, hv, -, -, hs⟩ := RK.Own.slr O12.out hall12
    injection hv with hv hv2 hv3
    subst hv hv3
    clear hv2
    have HC := hid (HCK.out w12 B12.out A12 c12 (T12 ++ D12) (by rw [List.length_append]; have := hT.out; have := hD.out; omega) hs)
    rw [List.length_append] at HC
    have HTL12 := hid hT.out; have HDL12 := hid hD.out
    have x0 := X12.out.cell 0; have x1 := X12.out.cell 1; have xz := X12.out.lt
    have y2 := Y12.out.cell 2; have yz := Y12.out.lt
    simp at x0 x1 y2
    clear hs O12 b12 hall12 hT hD B12d X12d Y12d
    go_wp2_with fail
    refine HC.out.mono ?_
    rintro e w13 ⟨k13, cc13, rfl, hck, hB⟩
    have B13 := hid (B12.out.trans (hB.mono B12.out.size))
    have X13 := hid (X12.out.below hB X12.out.lt)
    have Y13 := hid (Y12.out.below hB Y12.out.lt)
    clear hB HC B12 X12 Y12 x0 x1 xz y2 yz
    rw [HTT12.out, HDD12.out] at hck
    obtain ⟨rfl, rfl⟩ := HTW.out _ _ hck
    clear hck
    have y0 := Y13.out.cell 0; have y2 := Y13.out.cell 2; have yz := Y13.out.lt
    simp at y0 y2
    go_upto_region 22 with fail
    have hi4 : (i : Int) ≤ c := by omega
    have hi5 : (i : Int) + 1 ≤ rows.length := by omega
    have y0 := Y13.out.cell 0
    have b14d := hid (show Below w13.heap.size w13 w13.drew from (Below.refl _ _).drew)
    refine wpIn_wide.1 (wpIn_region_S (n := 0) (fun _ => True) [] (by kernel_rfl) trivial (fun hHeld => ?_))
    generalize w13.drew = wd14 at *
    have B14d := hid (B13.out.trans (b14d.out.mono B13.out.size))
    have X14d := hid (X13.out.below b14d.out X13.out.lt)
    have Y14d := hid (Y13.out.below b14d.out Y13.out.lt)
    clear y0 y2 yz X13 Y13 B13 b14d
    refine wpAnyG_pure 1 (v := ?_) (fun _ => trivial) (by simp only [List.getElem?_toArray, List.getElem?_cons_succ, List.getElem?_cons_zero]; rfl) (by kernel_rfl) (fun _ _ _ _ _ h => h) ⟨(by rfl), (by intro c h; cases h), ?_⟩ hHeld ?_
    rotate_left
    focus (intro wS hSw; (try replace hSw := HSF.out wS hSw); (try dsimp only at hSw); go_simp; (try with_reducible rfl))
    (try simp only [Act.put, List.setIfInBounds_toArray, List.set_cons_zero, List.set_cons_succ])
    refine wpAnyG_pure 2 (v := ?_) (fun _ => trivial) (by simp only [List.getElem?_toArray, List.getElem?_cons_succ, List.getElem?_cons_zero]; rfl) (by kernel_rfl) (fun _ _ _ _ _ h => h) ⟨(by rfl), (by intro c h; cases h), ?_⟩ hHeld ?_
    rotate_left
    focus (intro wS hSw; (try replace hSw := HSF.out wS hSw); (try dsimp only at hSw); go_simp; (try with_reducible rfl))
    (try simp only [Act.put, List.setIfInBounds_toArray, List.set_cons_zero, List.set_cons_succ])
    refine wpAnyG_pure 3 (v := ?_) (fun _ => trivial) (by simp only [List.getElem?_toArray, List.getElem?_cons_succ, List.getElem?_cons_zero]; rfl) (by kernel_rfl) (fun _ _ _ _ _ h => h) ⟨(by rfl), (by intro c h; cases h), ?_⟩ hHeld ?_
    rotate_left
    focus (intro wS hSw; (try replace hSw := HSF.out wS hSw); (try dsimp only at hSw); go_simp; (try with_reducible rfl))
    (try simp only [Act.put, List.setIfInBounds_toArray, List.set_cons_zero, List.set_cons_succ])
    refine wpAnyG_pure 5 (v := ?_) (fun _ => trivial) (by simp only [List.getElem?_toArray, List.getElem?_cons_succ, List.getElem?_cons_zero]; rfl) (by kernel_rfl) (fun _ _ _ _ _ h => h) ⟨(by rfl), (by intro c h; cases h), ?_⟩ hHeld ?_
    rotate_left
    focus (intro wS hSw; (try replace hSw := HSF.out wS hSw); (try dsimp only at hSw); go_simp; (try with_reducible rfl))
    (try simp only [Act.put, List.setIfInBounds_toArray, List.set_cons_zero, List.set_cons_succ])
    refine wpAnyG_pure 6 (v := ?_) (fun _ => trivial) (by simp only [List.getElem?_toArray, List.getElem?_cons_succ, List.getElem?_cons_zero]; rfl) (by kernel_rfl) (fun _ _ _ _ _ h => h) ⟨(by rfl), (by intro c h; cases h), ?_⟩ hHeld ?_
    rotate_left
    focus (intro wS hSw; (try replace hSw := HSF.out wS hSw); (try dsimp only at hSw); go_simp; (try with_reducible rfl))
    (try simp only [Act.put, List.setIfInBounds_toArray, List.set_cons_zero, List.set_cons_succ])
    refine wpAnyG_pure 7 (v := ?_) (fun _ => trivial) (by simp only [List.getElem?_toArray, List.getElem?_cons_succ, List.getElem?_cons_zero]; rfl) (by kernel_rfl) (fun _ _ _ _ _ h => h) ⟨(by rfl), (by intro c h; cases h), ?_⟩ hHeld ?_
    rotate_left
    focus (intro wS hSw; (try replace hSw := HSF.out wS hSw); (try dsimp only at hSw); go_simp; (try with_reducible rfl))
    (try simp only [Act.put, List.setIfInBounds_toArray, List.set_cons_zero, List.set_cons_succ])
    refine wpAnyG_pure 8 (v := ?_) (fun _ => trivial) (by simp only [List.getElem?_toArray, List.getElem?_cons_succ, List.getElem?_cons_zero]; rfl) (by kernel_rfl) (fun _ _ _ _ _ h => h) ⟨(by rfl), (by intro c h; cases h), ?_⟩ hHeld ?_
    rotate_left
    focus (intro wS hSw; (try replace hSw := HSF.out wS hSw); (try dsimp only at hSw); go_simp; (try with_reducible rfl))
    (try simp only [Act.put, List.setIfInBounds_toArray, List.set_cons_zero, List.set_cons_succ])
    refine wpAnyS_ready [0] (by kernel_rfl) (by simp) (AllReadyS.cons (by simp only [List.getElem?_toArray, List.getElem?_cons_succ, List.getElem?_cons_zero]; rfl) rfl (fun K hK => ?_) AllReadyS.nil)
    go_simp
    have b14e := hid (show Below wd14.heap.size wd14 (wd14.alloc (Obj.cells #[] 33)) by (repeat (first | exact Below.refl _ _ | assumption | refine below_drewN ?_ _ | refine Below.drew ?_ | refine Below.alloc ?_ (by (try simp); (try omega)) _ | refine Below.setCell ?_ (by (try simp); (try omega)) _)))
    have O14e := hid (own_empty wd14)
    have S14e := hid (slr_take (HGR.out _ (B14d.out.trans (b14e.out.mono B14d.out.size))) i)
    have hT := hid (show (rows.take i).length = i by rw [List.length_take]; omega)
    obtain ⟨T14, hTT⟩ : ∃ T, T = rows.take i := ⟨_, rfl⟩
    rw [← hTT] at hT S14e
    have HTT14 := hid hTT
    clear hTT
    refine hK.out _ _ trivial ?_
    clear hK K
    (try simp only [Act.put, List.setIfInBounds_toArray, List.set_cons_zero, List.set_cons_succ])
    refine wpAnyS_ready [4] (by kernel_rfl) (by simp) (AllReadyS.cons (by simp only [List.getElem?_toArray, List.getElem?_cons_succ, List.getElem?_cons_zero]; rfl) rfl (fun K hK => ?_) AllReadyS.nil)
    refine rwRK.appS (fun _ => trivial) (.tmp 129) (.tmp 132) rfl rfl O14e.out (ys := T14) (c := c) (by rw [hT.out]; rfl) S14e.out (by have := hT.out; simp; omega) b14e.out.size ?_
    intro A14f c14f w14f ho hg
    have O14f := hid (show rwRK.Own w14f wd14.heap.size (.slice A14f T14.length c14f) T14 by simpa using ho)
    have b14f := hid (b14e.out.grown hg b14e.out.size (fun q e => (own_blk O14e.out q e).1))
    rw [List.length_nil, Nat.zero_add]
    have S14f := hid (slr_last (HGR.out _ (B14d.out.trans (b14f.out.mono B14d.out.size))) hc (by omega))
    have hD := hid (show (rows.drop (i + 1)).length = rows.length - (i + 1) by rw [List.length_drop])
    obtain ⟨D14, hDD⟩ : ∃ D, D = rows.drop (i + 1) := ⟨_, rfl⟩
    rw [← hDD] at hD S14f
    have HDD14 := hid hDD
    clear hDD
    refine hK.out _ _ trivial ?_
    clear hK K ho hg O14e S14e
    (try simp only [Act.put, List.setIfInBounds_toArray, List.set_cons_zero, List.set_cons_succ])
    refine wpAnyS_ready [9] (by kernel_rfl) (by simp) (AllReadyS.cons (by simp only [List.getElem?_toArray, List.getElem?_cons_succ, List.getElem?_cons_zero]; rfl) rfl (fun K hK => ?_) AllReadyS.nil)
    refine rwRK.appS (fun _ => trivial) (.tmp 133) (.tmp 137) rfl rfl O14f.out (ys := D14) (c := c - (i + 1)) (by rw [hD.out]; rfl) S14f.out (by have := hT.out; have := hD.out; omega) b14f.out.size ?_
    intro A14 c14 w14 ho hg
    have O14 := hid ho
    have b14 := hid (b14f.out.grown hg b14f.out.size (fun q e => (own_blk O14f.out q e).1))
    refine hK.out _ _ trivial ?_
    clear hK K ho hg O14f S14f b14e b14f hHeld
    (try simp only [Act.put, List.setIfInBounds_toArray, List.set_cons_zero, List.set_cons_succ])
    have hHeld : True := trivial
    refine wpAnyG_pure 10 (v := ?_) (fun _ => trivial) (by simp only [List.getElem?_toArray, List.getElem?_cons_succ, List.getElem?_cons_zero]; rfl) (by kernel_rfl) (fun _ _ _ _ _ h => h) ⟨(by rfl), (by intro c h; cases h), ?_⟩ hHeld ?_
    rotate_left
    focus (intro wS hSw; (try replace hSw := HSF.out wS hSw); (try dsimp only at hSw); go_simp; (try with_reducible rfl))
    (try simp only [Act.put, List.setIfInBounds_toArray, List.set_cons_zero, List.set_cons_succ])
    refine wpAnyS_done (by kernel_rfl) ?_
    generalize (if c = i + 1 then some (⟨b, off, none⟩ : Addr) else some ⟨b, off + (i + 1) * 3, none⟩) = aq14 at *
    clear hHeld
    have B14 := hid (B14d.out.trans (b14.out.mono B14d.out.size))
    have X14 := hid (X14d.out.below b14.out X14d.out.lt)
    have Y14 := hid (Y14d.out.below b14.out Y14d.out.lt)
    have hall14 : ∀ x ∈ T14 ++ D14, rwRK.ok x := fun x hx => by
      rw [HTT14.out, HDD14.out] at hx
      rcases List.mem_append.1 hx with hx | hx
      · exact HRO.out x (List.mem_of_mem_take hx)
      · exact HRO.out x (List.mem_of_mem_drop hx)
    obtain ⟨A14x, c14x, hv, -, -, hs⟩ := RK.Own.slr O14.out hall14
    injection hv with hv hv2 hv3
    subst hv hv3
    clear hv2
    have HC := hid (HCK.out w14 B14.out A14 c14 (T14 ++ D14) (by rw [List.length_append]; have := hT.out; have := hD.out; omega) hs)
    rw [List.length_append] at HC
    have HTL14 := hid hT.out; have HDL14 := hid hD.out
    have x0 := X14.out.cell 0; have x1 := X14.out.cell 1; have xz := X14.out.lt
    have y2 := Y14.out.cell 2; have yz := Y14.out.lt
    simp at x0 x1 y2
    clear hs O14 b14 hall14 hT hD B14d X14d Y14d
    go_wp2_with fail
    refine HC.out.mono ?_
    rintro e w15 ⟨k15, cc15, rfl, hck, hB⟩
    have B15 := hid (B14.out.trans (hB.mono B14.out.size))
    have X15 := hid (X14.out.below hB X14.out.lt)
    have Y15 := hid (Y14.out.below hB Y14.out.lt)
    clear hB HC B14 X14 Y14 x0 x1 xz y2 yz
    rw [HTT14.out, HDD14.out] at hck
    have hlen15 : (rows.take i ++ rows.drop (i + 1)).length = T14.length + D14.length := by rw [List.length_append, HTT14.out, HDD14.out]
    have HLQ := hid (fun (q : Nat) (hq : q < rows.length) (hqi : q ≠ i) (hs : stepF g rows rows[q].1 act = some q0) => show cc15 = 25 ∧ 0 ≤ k15 ∧ k15 < ((T14.length + D14.length : Nat) : Int) from by rw [← hlen15]; exact HLS.out q hq hqi hs _ _ hck)
    clear hck hlen15
    have y0 := Y15.out.cell 0; have y2 := Y15.out.cell 2; have yz := Y15.out.lt
    simp at y0 y2
    go_upto_region 26 with fail
    go_loopw [25, 26, 27] (fun nv qv _ wr => ∃ q : Nat, q ≤ rows.length ∧ qv = .int .i64 q ∧ BoolIs nv (cc15 = 25 ∧ 0 ≤ k15 ∧ k15 < ((T14.length + D14.length : Nat) : Int)) ∧ Below w15.heap.size w15 wr) (fun _ qv _ _ => rows.length - (intOf qv).toNat)
    case atStart => exact ⟨0, by omega, rfl, ⟨false, rfl, fun h => by cases h⟩, Below.refl _ _⟩
    case round =>
      obtain ⟨q, hq, rfl, ⟨nb, rfl, hnb⟩, hB⟩ := hrel
      have HNB := hid hnb; have HB := hid hB
      have BR := hid (B15.out.trans (hB.mono B15.out.size))
      have XR := hid (X15.out.below hB X15.out.lt)
      have YR := hid (Y15.out.below hB Y15.out.lt)
      clear hnb hB y0 y2 yz
      by_cases hql : q < rows.length
      case neg =>
        cases nb with
        | false =>
          as_aux_lemma =>
            go_wp2_with fail
            go_ret
            exact ⟨rfl, BR.out⟩
        | true =>
          obtain ⟨e1, e2, e3⟩ := HNB.out rfl
          subst e1
          have e2b : ¬ k15 < 0 := by omega
          have e3b : ¬ ((T14.length : Int) + D14.length) ≤ k15 := by omega
          as_aux_lemma =>
            go_wp2_with fail
            go_ret
            exact ⟨rfl, BR.out⟩
      have hqlI : (q : Int) < rows.length := by omega
      obtain ⟨b', off', hA, -, c1, -, -, -⟩ := (HGR.out _ BR.out).row hql
      simp only [Option.some.injEq, Addr.mk.injEq, and_true] at hA
      obtain ⟨rfl, rfl⟩ := hA
      have hzb : b < wr.heap.size := by have := BR.out.size; omega
      have HIPq := hid (HIP.out q hql)
      have HLq := hid (HLQ.out q hql)
      have HROq := hid (HRO.out _ (List.getElem_mem hql))
      generalize rows[q] = rq at *
      obtain ⟨r0, r1, r2⟩ := rq
      simp only at c1 HIPq HLq
      have x0 := XR.out.cell 0; have x1 := XR.out.cell 1; have xz := XR.out.lt
      simp at x0 x1
      have HFL := hid (show folL g rows r0 [act] = r0 :: (match stepF g rows r0 act with | none => [] | some t => [t]) by
        unfold folL
        rw [HIPq.out, if_pos rfl]
        cases hs : stepF g rows r0 act with
        | none => rw [folF_stop hs]
        | some t => rw [folF_step hs]; rfl)
      have BDq := hid (show Below wr.heap.size wr wr.drew from (Below.refl _ _).drew)
      have HSF := hid (fun (wq : World) (hq : Below wr.heap.size wr wq) => And.intro ((bcell hq _ _ xz).trans x0) (And.intro ((bcell hq _ _ xz).trans x1) ((bcell hq _ _ hzb).trans c1)))
      clear x0 x1 c1
      go_upto_region 28 with fail
      refine wpIn_wide.1 (wpIn_region_S (n := 0) (fun wq => Below wr.heap.size wr wq) [] (by kernel_rfl) BDq.out (fun hHeld => ?_))
      generalize wr.drew = wdq at *
      refine wpAnyG_take 0 (v := ?_) (fun _ => trivial) (by simp only [List.getElem?_toArray, List.getElem?_cons_succ, List.getElem?_cons_zero]; rfl) (by kernel_rfl) (fun _ _ _ _ _ h => h) ⟨(by rfl), (by intro c h; cases h), ?_⟩ hHeld ?_
      rotate_left
      focus (intro wS hSw; (try replace hSw := HSF.out wS hSw); (try dsimp only at hSw); go_simp; (try with_reducible rfl))
      (try simp only [Act.put, List.setIfInBounds_toArray, List.set_cons_zero, List.set_cons_succ])
      refine wpAnyG_pure 1 (v := ?_) (fun _ => trivial) (by simp only [List.getElem?_toArray, List.getElem?_cons_succ, List.getElem?_cons_zero]; rfl) (by kernel_rfl) (fun _ _ _ _ _ h => h) ⟨(by rfl), (by intro c h; cases h), ?_⟩ hHeld ?_
      rotate_left
      focus (intro wS hSw; (try replace hSw := HSF.out wS hSw); (try dsimp only at hSw); go_simp; (try with_reducible rfl))
      (try simp only [Act.put, List.setIfInBounds_toArray, List.set_cons_zero, List.set_cons_succ])
      refine wpAnyG_pure 2 (v := ?_) (fun _ => trivial) (by simp only [List.getElem?_toArray, List.getElem?_cons_succ, List.getElem?_cons_zero]; rfl) (by kernel_rfl) (fun _ _ _ _ _ h => h) ⟨(by rfl), (by intro c h; cases h), ?_⟩ hHeld ?_
      rotate_left
      focus (intro wS hSw; (try replace hSw := HSF.out wS hSw); (try dsimp only at hSw); go_simp; (try with_reducible rfl))
      (try simp only [Act.put, List.setIfInBounds_toArray, List.set_cons_zero, List.set_cons_succ])
      refine wpAnyG_pure 3 (v := ?_) (fun _ => trivial) (by simp only [List.getElem?_toArray, List.getElem?_cons_succ, List.getElem?_cons_zero]; rfl) (by kernel_rfl) (fun _ _ _ _ _ h => h) ⟨(by rfl), (by intro c h; cases h), ?_⟩ hHeld ?_
      rotate_left
      focus (intro wS hSw; (try replace hSw := HSF.out wS hSw); (try dsimp only at hSw); go_simp; (try with_reducible rfl))
      (try simp only [Act.put, List.setIfInBounds_toArray, List.set_cons_zero, List.set_cons_succ])
      refine wpAnyG_pure 4 (v := ?_) (fun _ => trivial) (by simp only [List.getElem?_toArray, List.getElem?_cons_succ, List.getElem?_cons_zero]; rfl) (by kernel_rfl) (fun _ _ _ _ _ h => h) ⟨(by rfl), (by intro c h; cases h), ?_⟩ hHeld ?_
      rotate_left
      focus (intro wS hSw; (try replace hSw := HSF.out wS hSw); (try dsimp only at hSw); go_simp; (try with_reducible rfl))
      (try simp only [Act.put, List.setIfInBounds_toArray, List.set_cons_zero, List.set_cons_succ])
      refine wpAnyG_pure 5 (v := ?_) (fun _ => trivial) (by simp only [List.getElem?_toArray, List.getElem?_cons_succ, List.getElem?_cons_zero]; rfl) (by kernel_rfl) (fun _ _ _ _ _ h => h) ⟨(by rfl), (by intro c h; cases h), ?_⟩ hHeld ?_
      rotate_left
      focus (intro wS hSw; (try replace hSw := HSF.out wS hSw); (try dsimp only at hSw); go_simp; (try with_reducible rfl))
      (try simp only [Act.put, List.setIfInBounds_toArray, List.set_cons_zero, List.set_cons_succ])
      refine wpAnyG_take 6 (v := ?_) (fun _ => trivial) (by simp only [List.getElem?_toArray, List.getElem?_cons_succ, List.getElem?_cons_zero]; rfl) (by kernel_rfl) (fun _ _ _ _ _ h => h) ⟨(by rfl), (by intro c h; cases h), ?_⟩ hHeld ?_
      rotate_left
      focus (intro wS hSw; (try replace hSw := HSF.out wS hSw); (try dsimp only at hSw); go_simp; (try with_reducible rfl))
      (try simp only [Act.put, List.setIfInBounds_toArray, List.set_cons_zero, List.set_cons_succ])
      refine wpAnyG_pure 7 (v := ?_) (fun _ => trivial) (by simp only [List.getElem?_toArray, List.getElem?_cons_succ, List.getElem?_cons_zero]; rfl) (by kernel_rfl) (fun _ _ _ _ _ h => h) ⟨(by rfl), (by intro c h; cases h), ?_⟩ hHeld ?_
      rotate_left
      focus (intro wS hSw; (try replace hSw := HSF.out wS hSw); (try dsimp only at hSw); go_simp; (try with_reducible rfl))
      (try simp only [Act.put, List.setIfInBounds_toArray, List.set_cons_zero, List.set_cons_succ])
      refine wpAnyS_ready [8] (by kernel_rfl) (by simp) (AllReadyS.cons (by simp only [List.getElem?_toArray, List.getElem?_cons_succ, List.getElem?_cons_zero]; rfl) rfl (fun K hK => ?_) AllReadyS.nil)
      go_simp
      have B28 := hid (BDq.out.alloc BDq.out.size (Obj.cells #[.int .i64 act] 3))
      have SA := hid (slr_ints (w := wdq.alloc (Obj.cells #[.int .i64 act] 3)) (g := wdq.heap.size) (l := [act]) (Blk.new wdq 3 #[.int .i64 act]) (fun x hx => by rw [List.mem_singleton.1 hx]; exact HACTI.out))
      have HFq := hid (HFO.out _ (BR.out.trans (B28.out.mono BR.out.size)) HASC.out r0 _ SA.out)
      refine hK.out _ _ B28.out ?_
      clear hK K
      (try simp only [Act.put, List.setIfInBounds_toArray, List.set_cons_zero, List.set_cons_succ])
      refine wpAnyS_ready [9] (by kernel_rfl) (by simp) (AllReadyS.cons (by simp only [List.getElem?_toArray, List.getElem?_cons_succ, List.getElem?_cons_zero]; rfl) rfl (fun K hK => ?_) AllReadyS.nil)
      refine callV (by intro c h; cases h) (by go_simp; try with_reducible rfl) HFq.out ?_
      intro vF w29 hx
      obtain ⟨ho29, hB29⟩ := hx
      have B29 := hid (B28.out.trans (hB29.mono B28.out.size))
      have OV := hid ho29
      rw [HFL.out] at OV
      refine hK.out _ _ B29.out ?_
      (try simp only [Act.put, List.setIfInBounds_toArray, List.set_cons_zero, List.set_cons_succ])
      clear hK K ho29 hB29 hHeld HFq SA B28 HFL
      have hHeld := B29.out
      refine wpAnyG_pure 10 (v := ?_) (fun _ => trivial) (by simp only [List.getElem?_toArray, List.getElem?_cons_succ, List.getElem?_cons_zero]; rfl) (by kernel_rfl) (fun _ _ _ _ _ h => h) ⟨(by rfl), (by intro c h; cases h), ?_⟩ hHeld ?_
      rotate_left
      focus (intro wS hSw; (try replace hSw := HSF.out wS hSw); (try dsimp only at hSw); go_simp; (try with_reducible rfl))
      (try simp only [Act.put, List.setIfInBounds_toArray, List.set_cons_zero, List.set_cons_succ])
      refine wpAnyS_done (by kernel_rfl) ?_
      have B29r := hid (BR.out.trans (B29.out.mono BR.out.size))
      have BB29 := hid (HB.out.trans (B29.out.mono HB.out.size))
      have Y29 := hid (YR.out.below B29.out YR.out.lt)
      clear hHeld HSF BDq B29 XR YR
      have y0 := Y29.out.cell 0; have yz := Y29.out.lt
      simp at y0
      cases nb with
      | true =>
        obtain ⟨AV, cV, rfl⟩ := OwnI.form OV.out |>.imp fun A h => h.imp fun c h => h.1
        as_aux_lemma =>
          go_upto_region 29 with fail
          refine wpIn_wide.1 (wpIn_region_S (n := 0) (fun _ => True) [] (by kernel_rfl) trivial (fun hHeld => ?_))
          refine wpAnyG_pure 0 (v := ?_) (fun _ => trivial) (by simp only [List.getElem?_toArray, List.getElem?_cons_succ, List.getElem?_cons_zero]; rfl) (by kernel_rfl) (fun _ _ _ _ _ h => h) ⟨(by rfl), (by intro c h; cases h), ?_⟩ hHeld ?_
          rotate_left
          focus (intro wS hSw; (try replace hSw := HSF.out wS hSw); (try dsimp only at hSw); go_simp; (try with_reducible rfl))
          (try simp only [Act.put, List.setIfInBounds_toArray, List.set_cons_zero, List.set_cons_succ])
          refine wpAnyG_pure 1 (v := ?_) (fun _ => trivial) (by simp only [List.getElem?_toArray, List.getElem?_cons_succ, List.getElem?_cons_zero]; rfl) (by kernel_rfl) (fun _ _ _ _ _ h => h) ⟨(by rfl), (by intro c h; cases h), ?_⟩ hHeld ?_
          rotate_left
          focus (intro wS hSw; (try replace hSw := HSF.out wS hSw); (try dsimp only at hSw); go_simp; (try with_reducible rfl))
          (try simp only [Act.put, List.setIfInBounds_toArray, List.set_cons_zero, List.set_cons_succ])
          refine wpAnyG_skip 2 (fun _ => trivial) (by simp only [List.getElem?_toArray, List.getElem?_cons_succ, List.getElem?_cons_zero]; rfl) (by kernel_rfl) (fun _ _ _ _ _ h => h) (by rfl) hHeld ?_
          (try simp only [Act.put, List.setIfInBounds_toArray, List.set_cons_zero, List.set_cons_succ])
          refine wpAnyG_skip 3 (fun _ => trivial) (by simp only [List.getElem?_toArray, List.getElem?_cons_succ, List.getElem?_cons_zero]; rfl) (by kernel_rfl) (fun _ _ _ _ _ h => h) (by rfl) hHeld ?_
          (try simp only [Act.put, List.setIfInBounds_toArray, List.set_cons_zero, List.set_cons_succ])
          refine wpAnyG_skip 4 (fun _ => trivial) (by simp only [List.getElem?_toArray, List.getElem?_cons_succ, List.getElem?_cons_zero]; rfl) (by kernel_rfl) (fun _ _ _ _ _ h => h) (by rfl) hHeld ?_
          (try simp only [Act.put, List.setIfInBounds_toArray, List.set_cons_zero, List.set_cons_succ])
          refine wpAnyG_skip 5 (fun _ => trivial) (by simp only [List.getElem?_toArray, List.getElem?_cons_succ, List.getElem?_cons_zero]; rfl) (by kernel_rfl) (fun _ _ _ _ _ h => h) (by rfl) hHeld ?_
          (try simp only [Act.put, List.setIfInBounds_toArray, List.set_cons_zero, List.set_cons_succ])
          refine wpAnyG_skip 6 (fun _ => trivial) (by simp only [List.getElem?_toArray, List.getElem?_cons_succ, List.getElem?_cons_zero]; rfl) (by kernel_rfl) (fun _ _ _ _ _ h => h) (by rfl) hHeld ?_
          (try simp only [Act.put, List.setIfInBounds_toArray, List.set_cons_zero, List.set_cons_succ])
          refine wpAnyG_skip 7 (fun _ => trivial) (by simp only [List.getElem?_toArray, List.getElem?_cons_succ, List.getElem?_cons_zero]; rfl) (by kernel_rfl) (fun _ _ _ _ _ h => h) (by rfl) hHeld ?_
          (try simp only [Act.put, List.setIfInBounds_toArray, List.set_cons_zero, List.set_cons_succ])
          refine wpAnyG_skip 8 (fun _ => trivial) (by simp only [List.getElem?_toArray, List.getElem?_cons_succ, List.getElem?_cons_zero]; rfl) (by kernel_rfl) (fun _ _ _ _ _ h => h) (by rfl) hHeld ?_
          (try simp only [Act.put, List.setIfInBounds_toArray, List.set_cons_zero, List.set_cons_succ])
          refine wpAnyG_skip 9 (fun _ => trivial) (by simp only [List.getElem?_toArray, List.getElem?_cons_succ, List.getElem?_cons_zero]; rfl) (by kernel_rfl) (fun _ _ _ _ _ h => h) (by rfl) hHeld ?_
          (try simp only [Act.put, List.setIfInBounds_toArray, List.set_cons_zero, List.set_cons_succ])
          refine wpAnyG_skip 10 (fun _ => trivial) (by simp only [List.getElem?_toArray, List.getElem?_cons_succ, List.getElem?_cons_zero]; rfl) (by kernel_rfl) (fun _ _ _ _ _ h => h) (by rfl) hHeld ?_
          (try simp only [Act.put, List.setIfInBounds_toArray, List.set_cons_zero, List.set_cons_succ])
          refine wpAnyG_skip 11 (fun _ => trivial) (by simp only [List.getElem?_toArray, List.getElem?_cons_succ, List.getElem?_cons_zero]; rfl) (by kernel_rfl) (fun _ _ _ _ _ h => h) (by rfl) hHeld ?_
          (try simp only [Act.put, List.setIfInBounds_toArray, List.set_cons_zero, List.set_cons_succ])
          refine wpAnyG_skip 12 (fun _ => trivial) (by simp only [List.getElem?_toArray, List.getElem?_cons_succ, List.getElem?_cons_zero]; rfl) (by kernel_rfl) (fun _ _ _ _ _ h => h) (by rfl) hHeld ?_
          (try simp only [Act.put, List.setIfInBounds_toArray, List.set_cons_zero, List.set_cons_succ])
          refine wpAnyG_skip 13 (fun _ => trivial) (by simp only [List.getElem?_toArray, List.getElem?_cons_succ, List.getElem?_cons_zero]; rfl) (by kernel_rfl) (fun _ _ _ _ _ h => h) (by rfl) hHeld ?_
          (try simp only [Act.put, List.setIfInBounds_toArray, List.set_cons_zero, List.set_cons_succ])
          refine wpAnyG_skip 14 (fun _ => trivial) (by simp only [List.getElem?_toArray, List.getElem?_cons_succ, List.getElem?_cons_zero]; rfl) (by kernel_rfl) (fun _ _ _ _ _ h => h) (by rfl) hHeld ?_
          (try simp only [Act.put, List.setIfInBounds_toArray, List.set_cons_zero, List.set_cons_succ])
          refine wpAnyG_skip 15 (fun _ => trivial) (by simp only [List.getElem?_toArray, List.getElem?_cons_succ, List.getElem?_cons_zero]; rfl) (by kernel_rfl) (fun _ _ _ _ _ h => h) (by rfl) hHeld ?_
          (try simp only [Act.put, List.setIfInBounds_toArray, List.set_cons_zero, List.set_cons_succ])
          refine wpAnyG_skip 16 (fun _ => trivial) (by simp only [List.getElem?_toArray, List.getElem?_cons_succ, List.getElem?_cons_zero]; rfl) (by kernel_rfl) (fun _ _ _ _ _ h => h) (by rfl) hHeld ?_
          (try simp only [Act.put, List.setIfInBounds_toArray, List.set_cons_zero, List.set_cons_succ])
          refine wpAnyG_skip 17 (fun _ => trivial) (by simp only [List.getElem?_toArray, List.getElem?_cons_succ, List.getElem?_cons_zero]; rfl) (by kernel_rfl) (fun _ _ _ _ _ h => h) (by rfl) hHeld ?_
          (try simp only [Act.put, List.setIfInBounds_toArray, List.set_cons_zero, List.set_cons_succ])
          refine wpAnyG_skip 18 (fun _ => trivial) (by simp only [List.getElem?_toArray, List.getElem?_cons_succ, List.getElem?_cons_zero]; rfl) (by kernel_rfl) (fun _ _ _ _ _ h => h) (by rfl) hHeld ?_
          (try simp only [Act.put, List.setIfInBounds_toArray, List.set_cons_zero, List.set_cons_succ])
          refine wpAnyG_skip 19 (fun _ => trivial) (by simp only [List.getElem?_toArray, List.getElem?_cons_succ, List.getElem?_cons_zero]; rfl) (by kernel_rfl) (fun _ _ _ _ _ h => h) (by rfl) hHeld ?_
          (try simp only [Act.put, List.setIfInBounds_toArray, List.set_cons_zero, List.set_cons_succ])
          refine wpAnyG_skip 20 (fun _ => trivial) (by simp only [List.getElem?_toArray, List.getElem?_cons_succ, List.getElem?_cons_zero]; rfl) (by kernel_rfl) (fun _ _ _ _ _ h => h) (by rfl) hHeld ?_
          (try simp only [Act.put, List.setIfInBounds_toArray, List.set_cons_zero, List.set_cons_succ])
          refine wpAnyG_pure 21 (v := ?_) (fun _ => trivial) (by simp only [List.getElem?_toArray, List.getElem?_cons_succ, List.getElem?_cons_zero]; rfl) (by kernel_rfl) (fun _ _ _ _ _ h => h) ⟨(by rfl), (by intro c h; cases h), ?_⟩ hHeld ?_
          rotate_left
          focus (intro wS hSw; (try replace hSw := HSF.out wS hSw); (try dsimp only at hSw); go_simp; (try with_reducible rfl))
          (try simp only [Act.put, List.setIfInBounds_toArray, List.set_cons_zero, List.set_cons_succ])
          refine wpAnyG_pure 22 (v := ?_) (fun _ => trivial) (by simp only [List.getElem?_toArray, List.getElem?_cons_succ, List.getElem?_cons_zero]; rfl) (by kernel_rfl) (fun _ _ _ _ _ h => h) ⟨(by rfl), (by intro c h; cases h), ?_⟩ hHeld ?_
          rotate_left
          focus (intro wS hSw; (try replace hSw := HSF.out wS hSw); (try dsimp only at hSw); go_simp; (try with_reducible rfl))
          (try simp only [Act.put, List.setIfInBounds_toArray, List.set_cons_zero, List.set_cons_succ])
          refine wpAnyS_done (by kernel_rfl) ?_
          clear hHeld
          go_wp2_with fail
          go_roundw
          case rel => exact ⟨q + 1, by omega, by go_num, ⟨true, rfl, HNB.out⟩, BB29.out.drew⟩
          case measure => simp [intOf]; omega
      | false =>
      cases hst : stepF g rows r0 act with
      | none =>
        rw [hst] at OV
        simp only at OV
        obtain ⟨AV, cV, hAV⟩ := OwnI.form OV.out |>.imp fun A h => h.imp fun c h => h.1
        simp only [List.length_cons, List.length_nil, Nat.zero_add] at hAV
        subst hAV
        clear HLq hst OV y0 yz
        as_aux_lemma =>
          go_upto_region 29 with fail
          refine wpIn_wide.1 (wpIn_region_S (n := 0) (fun _ => True) [] (by kernel_rfl) trivial (fun hHeld => ?_))
          refine wpAnyG_pure 0 (v := ?_) (fun _ => trivial) (by simp only [List.getElem?_toArray, List.getElem?_cons_succ, List.getElem?_cons_zero]; rfl) (by kernel_rfl) (fun _ _ _ _ _ h => h) ⟨(by rfl), (by intro c h; cases h), ?_⟩ hHeld ?_
          rotate_left
          focus (intro wS hSw; (try replace hSw := HSF.out wS hSw); (try dsimp only at hSw); go_simp; (try with_reducible rfl))
          (try simp only [Act.put, List.setIfInBounds_toArray, List.set_cons_zero, List.set_cons_succ])
          refine wpAnyG_pure 1 (v := ?_) (fun _ => trivial) (by simp only [List.getElem?_toArray, List.getElem?_cons_succ, List.getElem?_cons_zero]; rfl) (by kernel_rfl) (fun _ _ _ _ _ h => h) ⟨(by rfl), (by intro c h; cases h), ?_⟩ hHeld ?_
          rotate_left
          focus (intro wS hSw; (try replace hSw := HSF.out wS hSw); (try dsimp only at hSw); go_simp; (try with_reducible rfl))
          (try simp only [Act.put, List.setIfInBounds_toArray, List.set_cons_zero, List.set_cons_succ])
          refine wpAnyG_pure 2 (v := ?_) (fun _ => trivial) (by simp only [List.getElem?_toArray, List.getElem?_cons_succ, List.getElem?_cons_zero]; rfl) (by kernel_rfl) (fun _ _ _ _ _ h => h) ⟨(by rfl), (by intro c h; cases h), ?_⟩ hHeld ?_
          rotate_left
          focus (intro wS hSw; (try replace hSw := HSF.out wS hSw); (try dsimp only at hSw); go_simp; (try with_reducible rfl))
          (try simp only [Act.put, List.setIfInBounds_toArray, List.set_cons_zero, List.set_cons_succ])
          refine wpAnyG_pure 3 (v := ?_) (fun _ => trivial) (by simp only [List.getElem?_toArray, List.getElem?_cons_succ, List.getElem?_cons_zero]; rfl) (by kernel_rfl) (fun _ _ _ _ _ h => h) ⟨(by rfl), (by intro c h; cases h), ?_⟩ hHeld ?_
          rotate_left
          focus (intro wS hSw; (try replace hSw := HSF.out wS hSw); (try dsimp only at hSw); go_simp; (try with_reducible rfl))
          (try simp only [Act.put, List.setIfInBounds_toArray, List.set_cons_zero, List.set_cons_succ])
          refine wpAnyG_pure 4 (v := ?_) (fun _ => trivial) (by simp only [List.getElem?_toArray, List.getElem?_cons_succ, List.getElem?_cons_zero]; rfl) (by kernel_rfl) (fun _ _ _ _ _ h => h) ⟨(by rfl), (by intro c h; cases h), ?_⟩ hHeld ?_
          rotate_left
          focus (intro wS hSw; (try replace hSw := HSF.out wS hSw); (try dsimp only at hSw); go_simp; (try with_reducible rfl))
          (try simp only [Act.put, List.setIfInBounds_toArray, List.set_cons_zero, List.set_cons_succ])
          refine wpAnyG_pure 5 (v := ?_) (fun _ => trivial) (by simp only [List.getElem?_toArray, List.getElem?_cons_succ, List.getElem?_cons_zero]; rfl) (by kernel_rfl) (fun _ _ _ _ _ h => h) ⟨(by rfl), (by intro c h; cases h), ?_⟩ hHeld ?_
          rotate_left
          focus (intro wS hSw; (try replace hSw := HSF.out wS hSw); (try dsimp only at hSw); go_simp; (try with_reducible rfl))
          (try simp only [Act.put, List.setIfInBounds_toArray, List.set_cons_zero, List.set_cons_succ])
          refine wpAnyG_skip 6 (fun _ => trivial) (by simp only [List.getElem?_toArray, List.getElem?_cons_succ, List.getElem?_cons_zero]; rfl) (by kernel_rfl) (fun _ _ _ _ _ h => h) (by rfl) hHeld ?_
          (try simp only [Act.put, List.setIfInBounds_toArray, List.set_cons_zero, List.set_cons_succ])
          refine wpAnyG_skip 7 (fun _ => trivial) (by simp only [List.getElem?_toArray, List.getElem?_cons_succ, List.getElem?_cons_zero]; rfl) (by kernel_rfl) (fun _ _ _ _ _ h => h) (by rfl) hHeld ?_
          (try simp only [Act.put, List.setIfInBounds_toArray, List.set_cons_zero, List.set_cons_succ])
          refine wpAnyG_skip 8 (fun _ => trivial) (by simp only [List.getElem?_toArray, List.getElem?_cons_succ, List.getElem?_cons_zero]; rfl) (by kernel_rfl) (fun _ _ _ _ _ h => h) (by rfl) hHeld ?_
          (try simp only [Act.put, List.setIfInBounds_toArray, List.set_cons_zero, List.set_cons_succ])
          refine wpAnyG_skip 9 (fun _ => trivial) (by simp only [List.getElem?_toArray, List.getElem?_cons_succ, List.getElem?_cons_zero]; rfl) (by kernel_rfl) (fun _ _ _ _ _ h => h) (by rfl) hHeld ?_
          (try simp only [Act.put, List.setIfInBounds_toArray, List.set_cons_zero, List.set_cons_succ])
          refine wpAnyG_skip 10 (fun _ => trivial) (by simp only [List.getElem?_toArray, List.getElem?_cons_succ, List.getElem?_cons_zero]; rfl) (by kernel_rfl) (fun _ _ _ _ _ h => h) (by rfl) hHeld ?_
          (try simp only [Act.put, List.setIfInBounds_toArray, List.set_cons_zero, List.set_cons_succ])
          refine wpAnyG_skip 11 (fun _ => trivial) (by simp only [List.getElem?_toArray, List.getElem?_cons_succ, List.getElem?_cons_zero]; rfl) (by kernel_rfl) (fun _ _ _ _ _ h => h) (by rfl) hHeld ?_
          (try simp only [Act.put, List.setIfInBounds_toArray, List.set_cons_zero, List.set_cons_succ])
          refine wpAnyG_skip 12 (fun _ => trivial) (by simp only [List.getElem?_toArray, List.getElem?_cons_succ, List.getElem?_cons_zero]; rfl) (by kernel_rfl) (fun _ _ _ _ _ h => h) (by rfl) hHeld ?_
          (try simp only [Act.put, List.setIfInBounds_toArray, List.set_cons_zero, List.set_cons_succ])
          refine wpAnyG_skip 13 (fun _ => trivial) (by simp only [List.getElem?_toArray, List.getElem?_cons_succ, List.getElem?_cons_zero]; rfl) (by kernel_rfl) (fun _ _ _ _ _ h => h) (by rfl) hHeld ?_
          (try simp only [Act.put, List.setIfInBounds_toArray, List.set_cons_zero, List.set_cons_succ])
          refine wpAnyG_skip 14 (fun _ => trivial) (by simp only [List.getElem?_toArray, List.getElem?_cons_succ, List.getElem?_cons_zero]; rfl) (by kernel_rfl) (fun _ _ _ _ _ h => h) (by rfl) hHeld ?_
          (try simp only [Act.put, List.setIfInBounds_toArray, List.set_cons_zero, List.set_cons_succ])
          refine wpAnyG_pure 15 (v := ?_) (fun _ => trivial) (by simp only [List.getElem?_toArray, List.getElem?_cons_succ, List.getElem?_cons_zero]; rfl) (by kernel_rfl) (fun _ _ _ _ _ h => h) ⟨(by rfl), (by intro c h; cases h), ?_⟩ hHeld ?_
          rotate_left
          focus (intro wS hSw; (try replace hSw := HSF.out wS hSw); (try dsimp only at hSw); go_simp; (try with_reducible rfl))
          (try simp only [Act.put, List.setIfInBounds_toArray, List.set_cons_zero, List.set_cons_succ])
          refine wpAnyG_pure 16 (v := ?_) (fun _ => trivial) (by simp only [List.getElem?_toArray, List.getElem?_cons_succ, List.getElem?_cons_zero]; rfl) (by kernel_rfl) (fun _ _ _ _ _ h => h) ⟨(by rfl), (by intro c h; cases h), ?_⟩ hHeld ?_
          rotate_left
          focus (intro wS hSw; (try replace hSw := HSF.out wS hSw); (try dsimp only at hSw); go_simp; (try with_reducible rfl))
          (try simp only [Act.put, List.setIfInBounds_toArray, List.set_cons_zero, List.set_cons_succ])
          refine wpAnyG_skip 17 (fun _ => trivial) (by simp only [List.getElem?_toArray, List.getElem?_cons_succ, List.getElem?_cons_zero]; rfl) (by kernel_rfl) (fun _ _ _ _ _ h => h) (by rfl) hHeld ?_
          (try simp only [Act.put, List.setIfInBounds_toArray, List.set_cons_zero, List.set_cons_succ])
          refine wpAnyG_skip 18 (fun _ => trivial) (by simp only [List.getElem?_toArray, List.getElem?_cons_succ, List.getElem?_cons_zero]; rfl) (by kernel_rfl) (fun _ _ _ _ _ h => h) (by rfl) hHeld ?_
          (try simp only [Act.put, List.setIfInBounds_toArray, List.set_cons_zero, List.set_cons_succ])
          refine wpAnyG_skip 19 (fun _ => trivial) (by simp only [List.getElem?_toArray, List.getElem?_cons_succ, List.getElem?_cons_zero]; rfl) (by kernel_rfl) (fun _ _ _ _ _ h => h) (by rfl) hHeld ?_
          (try simp only [Act.put, List.setIfInBounds_toArray, List.set_cons_zero, List.set_cons_succ])
          refine wpAnyG_pure 20 (v := ?_) (fun _ => trivial) (by simp only [List.getElem?_toArray, List.getElem?_cons_succ, List.getElem?_cons_zero]; rfl) (by kernel_rfl) (fun _ _ _ _ _ h => h) ⟨(by rfl), (by intro c h; cases h), ?_⟩ hHeld ?_
          rotate_left
          focus (intro wS hSw; (try replace hSw := HSF.out wS hSw); (try dsimp only at hSw); go_simp; (try with_reducible rfl))
          (try simp only [Act.put, List.setIfInBounds_toArray, List.set_cons_zero, List.set_cons_succ])
          refine wpAnyG_pure 21 (v := ?_) (fun _ => trivial) (by simp only [List.getElem?_toArray, List.getElem?_cons_succ, List.getElem?_cons_zero]; rfl) (by kernel_rfl) (fun _ _ _ _ _ h => h) ⟨(by rfl), (by intro c h; cases h), ?_⟩ hHeld ?_
          rotate_left
          focus (intro wS hSw; (try replace hSw := HSF.out wS hSw); (try dsimp only at hSw); go_simp; (try with_reducible rfl))
          (try simp only [Act.put, List.setIfInBounds_toArray, List.set_cons_zero, List.set_cons_succ])
          refine wpAnyG_pure 22 (v := ?_) (fun _ => trivial) (by simp only [List.getElem?_toArray, List.getElem?_cons_succ, List.getElem?_cons_zero]; rfl) (by kernel_rfl) (fun _ _ _ _ _ h => h) ⟨(by rfl), (by intro c h; cases h), ?_⟩ hHeld ?_
          rotate_left
          focus (intro wS hSw; (try replace hSw := HSF.out wS hSw); (try dsimp only at hSw); go_simp; (try with_reducible rfl))
          (try simp only [Act.put, List.setIfInBounds_toArray, List.set_cons_zero, List.set_cons_succ])
          refine wpAnyS_done (by kernel_rfl) ?_
          clear hHeld
          go_wp2_with fail
          go_roundw
          case rel => exact ⟨q + 1, by omega, by go_num, ⟨false, rfl, fun h => by cases h⟩, BB29.out.drew⟩
          case measure => simp [intOf]; omega
      | some t =>
        have HST := hid hst
        rw [hst] at OV
        simp only at OV
        obtain ⟨AV, cV, hAV, hAF⟩ := OwnI.form OV.out
        obtain ⟨gV, rfl, -, hgV, hcV, -⟩ := hAF (by simp)
        have hAV2 : vF = .slice (some ⟨gV, 0, none⟩) 2 cV := hAV
        clear hAV
        subst hAV2
        have hw21 : IntKind.i64.wrap (2 - 1) = 1 := IntWalk.i64_in _ (by omega)
        have hw11 : IntKind.i64.wrap 1 = 1 := IntWalk.i64_in _ (by omega)
        have hc1 := hcV 1 (by simp)
        simp only [List.getElem_cons_succ, List.getElem_cons_zero] at hc1
        clear hst OV hAF hcV
        by_cases htq : t = q0
        case neg =>
          have ht1 : (t == q0) = false := by simpa using htq
          have ht2 : decide (t = q0) = false := by simpa using htq
          clear HLq HST
          as_aux_lemma =>
            go_upto_region 29 with fail
            refine wpIn_wide.1 (wpIn_region_S (n := 0) (fun wq => wq.cell? ⟨gV, 1, none⟩ = some (.int .i64 t) ∧ wq.cell? ⟨yb, 0, none⟩ = some (.int .i64 q0)) [] (by kernel_rfl) ⟨hc1, y0⟩ (fun hHeld => ?_))
            refine wpAnyG_pure 0 (v := ?_) (fun _ => trivial) (by simp only [List.getElem?_toArray, List.getElem?_cons_succ, List.getElem?_cons_zero]; rfl) (by kernel_rfl) (fun _ _ _ _ _ h => h) ⟨(by rfl), (by intro c h; cases h), ?_⟩ hHeld ?_
            rotate_left
            focus (intro wS hSw; (try replace hSw := HSF.out wS hSw); (try dsimp only at hSw); go_simp; (try with_reducible rfl))
            (try simp only [Act.put, List.setIfInBounds_toArray, List.set_cons_zero, List.set_cons_succ])
            refine wpAnyG_pure 1 (v := ?_) (fun _ => trivial) (by simp only [List.getElem?_toArray, List.getElem?_cons_succ, List.getElem?_cons_zero]; rfl) (by kernel_rfl) (fun _ _ _ _ _ h => h) ⟨(by rfl), (by intro c h; cases h), ?_⟩ hHeld ?_
            rotate_left
            focus (intro wS hSw; (try replace hSw := HSF.out wS hSw); (try dsimp only at hSw); go_simp; (try with_reducible rfl))
            (try simp only [Act.put, List.setIfInBounds_toArray, List.set_cons_zero, List.set_cons_succ])
            refine wpAnyG_pure 2 (v := ?_) (fun _ => trivial) (by simp only [List.getElem?_toArray, List.getElem?_cons_succ, List.getElem?_cons_zero]; rfl) (by kernel_rfl) (fun _ _ _ _ _ h => h) ⟨(by rfl), (by intro c h; cases h), ?_⟩ hHeld ?_
            rotate_left
            focus (intro wS hSw; (try replace hSw := HSF.out wS hSw); (try dsimp only at hSw); go_simp; (try with_reducible rfl))
            (try simp only [Act.put, List.setIfInBounds_toArray, List.set_cons_zero, List.set_cons_succ])
            refine wpAnyG_pure 3 (v := ?_) (fun _ => trivial) (by simp only [List.getElem?_toArray, List.getElem?_cons_succ, List.getElem?_cons_zero]; rfl) (by kernel_rfl) (fun _ _ _ _ _ h => h) ⟨(by rfl), (by intro c h; cases h), ?_⟩ hHeld ?_
            rotate_left
            focus (intro wS hSw; (try replace hSw := HSF.out wS hSw); (try dsimp only at hSw); go_simp; (try with_reducible rfl))
            (try simp only [Act.put, List.setIfInBounds_toArray, List.set_cons_zero, List.set_cons_succ])
            refine wpAnyG_pure 4 (v := ?_) (fun _ => trivial) (by simp only [List.getElem?_toArray, List.getElem?_cons_succ, List.getElem?_cons_zero]; rfl) (by kernel_rfl) (fun _ _ _ _ _ h => h) ⟨(by rfl), (by intro c h; cases h), ?_⟩ hHeld ?_
            rotate_left
            focus (intro wS hSw; (try replace hSw := HSF.out wS hSw); (try dsimp only at hSw); go_simp; (try with_reducible rfl))
            (try simp only [Act.put, List.setIfInBounds_toArray, List.set_cons_zero, List.set_cons_succ])
            refine wpAnyG_pure 5 (v := ?_) (fun _ => trivial) (by simp only [List.getElem?_toArray, List.getElem?_cons_succ, List.getElem?_cons_zero]; rfl) (by kernel_rfl) (fun _ _ _ _ _ h => h) ⟨(by rfl), (by intro c h; cases h), ?_⟩ hHeld ?_
            rotate_left
            focus (intro wS hSw; (try replace hSw := HSF.out wS hSw); (try dsimp only at hSw); go_simp; (try with_reducible rfl))
            (try simp only [Act.put, List.setIfInBounds_toArray, List.set_cons_zero, List.set_cons_succ])
            refine wpAnyG_pure 6 (v := ?_) (fun _ => trivial) (by simp only [List.getElem?_toArray, List.getElem?_cons_succ, List.getElem?_cons_zero]; rfl) (by kernel_rfl) (fun _ _ _ _ _ h => h) ⟨(by rfl), (by intro c h; cases h), ?_⟩ hHeld ?_
            rotate_left
            focus (intro wS hSw; (try replace hSw := HSF.out wS hSw); (try dsimp only at hSw); go_simp; (try with_reducible rfl))
            (try simp only [Act.put, List.setIfInBounds_toArray, List.set_cons_zero, List.set_cons_succ])
            refine wpAnyG_pure 7 (v := ?_) (fun _ => trivial) (by simp only [List.getElem?_toArray, List.getElem?_cons_succ, List.getElem?_cons_zero]; rfl) (by kernel_rfl) (fun _ _ _ _ _ h => h) ⟨(by rfl), (by intro c h; cases h), ?_⟩ hHeld ?_
            rotate_left
            focus (intro wS hSw; (try replace hSw := HSF.out wS hSw); (try dsimp only at hSw); go_simp; (try with_reducible rfl))
            (try simp only [Act.put, List.setIfInBounds_toArray, List.set_cons_zero, List.set_cons_succ])
            refine wpAnyG_pure 8 (v := ?_) (fun _ => trivial) (by simp only [List.getElem?_toArray, List.getElem?_cons_succ, List.getElem?_cons_zero]; rfl) (by kernel_rfl) (fun _ _ _ _ _ h => h) ⟨(by rfl), (by intro c h; cases h), ?_⟩ hHeld ?_
            rotate_left
            focus (intro wS hSw; (try replace hSw := HSF.out wS hSw); (try dsimp only at hSw); go_simp; (try with_reducible rfl))
            (try simp only [Act.put, List.setIfInBounds_toArray, List.set_cons_zero, List.set_cons_succ])
            refine wpAnyG_pure 9 (v := ?_) (fun _ => trivial) (by simp only [List.getElem?_toArray, List.getElem?_cons_succ, List.getElem?_cons_zero]; rfl) (by kernel_rfl) (fun _ _ _ _ _ h => h) ⟨(by rfl), (by intro c h; cases h), ?_⟩ hHeld ?_
            rotate_left
            focus (intro wS hSw; (try replace hSw := HSF.out wS hSw); (try dsimp only at hSw); go_simp; (try with_reducible rfl))
            (try simp only [Act.put, List.setIfInBounds_toArray, List.set_cons_zero, List.set_cons_succ])
            refine wpAnyG_pure 10 (v := ?_) (fun _ => trivial) (by simp only [List.getElem?_toArray, List.getElem?_cons_succ, List.getElem?_cons_zero]; rfl) (by kernel_rfl) (fun _ _ _ _ _ h => h) ⟨(by rfl), (by intro c h; cases h), ?_⟩ hHeld ?_
            rotate_left
            focus (intro wS hSw; (try replace hSw := HSF.out wS hSw); (try dsimp only at hSw); go_simp; (try with_reducible rfl))
            (try simp only [Act.put, List.setIfInBounds_toArray, List.set_cons_zero, List.set_cons_succ])
            refine wpAnyG_take 11 (v := ?_) (fun _ => trivial) (by simp only [List.getElem?_toArray, List.getElem?_cons_succ, List.getElem?_cons_zero]; rfl) (by kernel_rfl) (fun _ _ _ _ _ h => h) ⟨(by rfl), (by intro c h; cases h), ?_⟩ hHeld ?_
            rotate_left
            focus (intro wS hSw; (try replace hSw := HSF.out wS hSw); (try dsimp only at hSw); go_simp; (try with_reducible rfl))
            (try simp only [Act.put, List.setIfInBounds_toArray, List.set_cons_zero, List.set_cons_succ])
            refine wpAnyG_pure 12 (v := ?_) (fun _ => trivial) (by simp only [List.getElem?_toArray, List.getElem?_cons_succ, List.getElem?_cons_zero]; rfl) (by kernel_rfl) (fun _ _ _ _ _ h => h) ⟨(by rfl), (by intro c h; cases h), ?_⟩ hHeld ?_
            rotate_left
            focus (intro wS hSw; (try replace hSw := HSF.out wS hSw); (try dsimp only at hSw); go_simp; (try with_reducible rfl))
            (try simp only [Act.put, List.setIfInBounds_toArray, List.set_cons_zero, List.set_cons_succ])
            refine wpAnyG_take 13 (v := ?_) (fun _ => trivial) (by simp only [List.getElem?_toArray, List.getElem?_cons_succ, List.getElem?_cons_zero]; rfl) (by kernel_rfl) (fun _ _ _ _ _ h => h) ⟨(by rfl), (by intro c h; cases h), ?_⟩ hHeld ?_
            rotate_left
            focus (intro wS hSw; (try replace hSw := HSF.out wS hSw); (try dsimp only at hSw); go_simp; (try with_reducible rfl))
            (try simp only [Act.put, List.setIfInBounds_toArray, List.set_cons_zero, List.set_cons_succ])
            refine wpAnyG_pure 14 (v := ?_) (fun _ => trivial) (by simp only [List.getElem?_toArray, List.getElem?_cons_succ, List.getElem?_cons_zero]; rfl) (by kernel_rfl) (fun _ _ _ _ _ h => h) ⟨(by rfl), (by intro c h; cases h), ?_⟩ hHeld ?_
            rotate_left
            focus (intro wS hSw; (try replace hSw := HSF.out wS hSw); (try dsimp only at hSw); go_simp; (try with_reducible rfl))
            (try simp only [Act.put, List.setIfInBounds_toArray, List.set_cons_zero, List.set_cons_succ])
            refine wpAnyG_pure 15 (v := ?_) (fun _ => trivial) (by simp only [List.getElem?_toArray, List.getElem?_cons_succ, List.getElem?_cons_zero]; rfl) (by kernel_rfl) (fun _ _ _ _ _ h => h) ⟨(by rfl), (by intro c h; cases h), ?_⟩ hHeld ?_
            rotate_left
            focus (intro wS hSw; (try replace hSw := HSF.out wS hSw); (try dsimp only at hSw); go_simp; (try with_reducible rfl))
            (try simp only [Act.put, List.setIfInBounds_toArray, List.set_cons_zero, List.set_cons_succ])
            refine wpAnyG_pure 16 (v := ?_) (fun _ => trivial) (by simp only [List.getElem?_toArray, List.getElem?_cons_succ, List.getElem?_cons_zero]; rfl) (by kernel_rfl) (fun _ _ _ _ _ h => h) ⟨(by rfl), (by intro c h; cases h), ?_⟩ hHeld ?_
            rotate_left
            focus (intro wS hSw; (try replace hSw := HSF.out wS hSw); (try dsimp only at hSw); go_simp; (try with_reducible rfl))
            (try simp only [Act.put, List.setIfInBounds_toArray, List.set_cons_zero, List.set_cons_succ])
            refine wpAnyG_skip 17 (fun _ => trivial) (by simp only [List.getElem?_toArray, List.getElem?_cons_succ, List.getElem?_cons_zero]; rfl) (by kernel_rfl) (fun _ _ _ _ _ h => h) (by rfl) hHeld ?_
            (try simp only [Act.put, List.setIfInBounds_toArray, List.set_cons_zero, List.set_cons_succ])
            refine wpAnyG_skip 18 (fun _ => trivial) (by simp only [List.getElem?_toArray, List.getElem?_cons_succ, List.getElem?_cons_zero]; rfl) (by kernel_rfl) (fun _ _ _ _ _ h => h) (by rfl) hHeld ?_
            (try simp only [Act.put, List.setIfInBounds_toArray, List.set_cons_zero, List.set_cons_succ])
            refine wpAnyG_skip 19 (fun _ => trivial) (by simp only [List.getElem?_toArray, List.getElem?_cons_succ, List.getElem?_cons_zero]; rfl) (by kernel_rfl) (fun _ _ _ _ _ h => h) (by rfl) hHeld ?_
            (try simp only [Act.put, List.setIfInBounds_toArray, List.set_cons_zero, List.set_cons_succ])
            refine wpAnyG_pure 20 (v := ?_) (fun _ => trivial) (by simp only [List.getElem?_toArray, List.getElem?_cons_succ, List.getElem?_cons_zero]; rfl) (by kernel_rfl) (fun _ _ _ _ _ h => h) ⟨(by rfl), (by intro c h; cases h), ?_⟩ hHeld ?_
            rotate_left
            focus (intro wS hSw; (try replace hSw := HSF.out wS hSw); (try dsimp only at hSw); go_simp; (try with_reducible rfl))
            (try simp only [Act.put, List.setIfInBounds_toArray, List.set_cons_zero, List.set_cons_succ])
            refine wpAnyG_pure 21 (v := ?_) (fun _ => trivial) (by simp only [List.getElem?_toArray, List.getElem?_cons_succ, List.getElem?_cons_zero]; rfl) (by kernel_rfl) (fun _ _ _ _ _ h => h) ⟨(by rfl), (by intro c h; cases h), ?_⟩ hHeld ?_
            rotate_left
            focus (intro wS hSw; (try replace hSw := HSF.out wS hSw); (try dsimp only at hSw); go_simp; (try with_reducible rfl))
            (try simp only [Act.put, List.setIfInBounds_toArray, List.set_cons_zero, List.set_cons_succ])
            refine wpAnyG_pure 22 (v := ?_) (fun _ => trivial) (by simp only [List.getElem?_toArray, List.getElem?_cons_succ, List.getElem?_cons_zero]; rfl) (by kernel_rfl) (fun _ _ _ _ _ h => h) ⟨(by rfl), (by intro c h; cases h), ?_⟩ hHeld ?_
            rotate_left
            focus (intro wS hSw; (try replace hSw := HSF.out wS hSw); (try dsimp only at hSw); go_simp; (try with_reducible rfl))
            (try simp only [Act.put, List.setIfInBounds_toArray, List.set_cons_zero, List.set_cons_succ])
            refine wpAnyS_done (by kernel_rfl) ?_
            clear hHeld
            go_wp2_with fail
            go_roundw
            case rel => exact ⟨q + 1, by omega, by go_num, ⟨false, rfl, fun h => by cases h⟩, BB29.out.drew⟩
            case measure => simp [intOf]; omega
        subst htq
        by_cases hqi : q = i
        · subst hqi
          clear HLq HST
          as_aux_lemma =>
            go_upto_region 29 with fail
            refine wpIn_wide.1 (wpIn_region_S (n := 0) (fun wq => wq.cell? ⟨gV, 1, none⟩ = some (.int .i64 t) ∧ wq.cell? ⟨yb, 0, none⟩ = some (.int .i64 t)) [] (by kernel_rfl) ⟨hc1, y0⟩ (fun hHeld => ?_))
            refine wpAnyG_pure 0 (v := ?_) (fun _ => trivial) (by simp only [List.getElem?_toArray, List.getElem?_cons_succ, List.getElem?_cons_zero]; rfl) (by kernel_rfl) (fun _ _ _ _ _ h => h) ⟨(by rfl), (by intro c h; cases h), ?_⟩ hHeld ?_
            rotate_left
            focus (intro wS hSw; (try replace hSw := HSF.out wS hSw); (try dsimp only at hSw); go_simp; (try with_reducible rfl))
            (try simp only [Act.put, List.setIfInBounds_toArray, List.set_cons_zero, List.set_cons_succ])
            refine wpAnyG_pure 1 (v := ?_) (fun _ => trivial) (by simp only [List.getElem?_toArray, List.getElem?_cons_succ, List.getElem?_cons_zero]; rfl) (by kernel_rfl) (fun _ _ _ _ _ h => h) ⟨(by rfl), (by intro c h; cases h), ?_⟩ hHeld ?_
            rotate_left
            focus (intro wS hSw; (try replace hSw := HSF.out wS hSw); (try dsimp only at hSw); go_simp; (try with_reducible rfl))
            (try simp only [Act.put, List.setIfInBounds_toArray, List.set_cons_zero, List.set_cons_succ])
            refine wpAnyG_pure 2 (v := ?_) (fun _ => trivial) (by simp only [List.getElem?_toArray, List.getElem?_cons_succ, List.getElem?_cons_zero]; rfl) (by kernel_rfl) (fun _ _ _ _ _ h => h) ⟨(by rfl), (by intro c h; cases h), ?_⟩ hHeld ?_
            rotate_left
            focus (intro wS hSw; (try replace hSw := HSF.out wS hSw); (try dsimp only at hSw); go_simp; (try with_reducible rfl))
            (try simp only [Act.put, List.setIfInBounds_toArray, List.set_cons_zero, List.set_cons_succ])
            refine wpAnyG_pure 3 (v := ?_) (fun _ => trivial) (by simp only [List.getElem?_toArray, List.getElem?_cons_succ, List.getElem?_cons_zero]; rfl) (by kernel_rfl) (fun _ _ _ _ _ h => h) ⟨(by rfl), (by intro c h; cases h), ?_⟩ hHeld ?_
            rotate_left
            focus (intro wS hSw; (try replace hSw := HSF.out wS hSw); (try dsimp only at hSw); go_simp; (try with_reducible rfl))
            (try simp only [Act.put, List.setIfInBounds_toArray, List.set_cons_zero, List.set_cons_succ])
            refine wpAnyG_pure 4 (v := ?_) (fun _ => trivial) (by simp only [List.getElem?_toArray, List.getElem?_cons_succ, List.getElem?_cons_zero]; rfl) (by kernel_rfl) (fun _ _ _ _ _ h => h) ⟨(by rfl), (by intro c h; cases h), ?_⟩ hHeld ?_
            rotate_left
            focus (intro wS hSw; (try replace hSw := HSF.out wS hSw); (try dsimp only at hSw); go_simp; (try with_reducible rfl))
            (try simp only [Act.put, List.setIfInBounds_toArray, List.set_cons_zero, List.set_cons_succ])
            refine wpAnyG_pure 5 (v := ?_) (fun _ => trivial) (by simp only [List.getElem?_toArray, List.getElem?_cons_succ, List.getElem?_cons_zero]; rfl) (by kernel_rfl) (fun _ _ _ _ _ h => h) ⟨(by rfl), (by intro c h; cases h), ?_⟩ hHeld ?_
            rotate_left
            focus (intro wS hSw; (try replace hSw := HSF.out wS hSw); (try dsimp only at hSw); go_simp; (try with_reducible rfl))
            (try simp only [Act.put, List.setIfInBounds_toArray, List.set_cons_zero, List.set_cons_succ])
            refine wpAnyG_pure 6 (v := ?_) (fun _ => trivial) (by simp only [List.getElem?_toArray, List.getElem?_cons_succ, List.getElem?_cons_zero]; rfl) (by kernel_rfl) (fun _ _ _ _ _ h => h) ⟨(by rfl), (by intro c h; cases h), ?_⟩ hHeld ?_
            rotate_left
            focus (intro wS hSw; (try replace hSw := HSF.out wS hSw); (try dsimp only at hSw); go_simp; (try with_reducible rfl))
            (try simp only [Act.put, List.setIfInBounds_toArray, List.set_cons_zero, List.set_cons_succ])
            refine wpAnyG_pure 7 (v := ?_) (fun _ => trivial) (by simp only [List.getElem?_toArray, List.getElem?_cons_succ, List.getElem?_cons_zero]; rfl) (by kernel_rfl) (fun _ _ _ _ _ h => h) ⟨(by rfl), (by intro c h; cases h), ?_⟩ hHeld ?_
            rotate_left
            focus (intro wS hSw; (try replace hSw := HSF.out wS hSw); (try dsimp only at hSw); go_simp; (try with_reducible rfl))
            (try simp only [Act.put, List.setIfInBounds_toArray, List.set_cons_zero, List.set_cons_succ])
            refine wpAnyG_pure 8 (v := ?_) (fun _ => trivial) (by simp only [List.getElem?_toArray, List.getElem?_cons_succ, List.getElem?_cons_zero]; rfl) (by kernel_rfl) (fun _ _ _ _ _ h => h) ⟨(by rfl), (by intro c h; cases h), ?_⟩ hHeld ?_
            rotate_left
            focus (intro wS hSw; (try replace hSw := HSF.out wS hSw); (try dsimp only at hSw); go_simp; (try with_reducible rfl))
            (try simp only [Act.put, List.setIfInBounds_toArray, List.set_cons_zero, List.set_cons_succ])
            refine wpAnyG_pure 9 (v := ?_) (fun _ => trivial) (by simp only [List.getElem?_toArray, List.getElem?_cons_succ, List.getElem?_cons_zero]; rfl) (by kernel_rfl) (fun _ _ _ _ _ h => h) ⟨(by rfl), (by intro c h; cases h), ?_⟩ hHeld ?_
            rotate_left
            focus (intro wS hSw; (try replace hSw := HSF.out wS hSw); (try dsimp only at hSw); go_simp; (try with_reducible rfl))
            (try simp only [Act.put, List.setIfInBounds_toArray, List.set_cons_zero, List.set_cons_succ])
            refine wpAnyG_pure 10 (v := ?_) (fun _ => trivial) (by simp only [List.getElem?_toArray, List.getElem?_cons_succ, List.getElem?_cons_zero]; rfl) (by kernel_rfl) (fun _ _ _ _ _ h => h) ⟨(by rfl), (by intro c h; cases h), ?_⟩ hHeld ?_
            rotate_left
            focus (intro wS hSw; (try replace hSw := HSF.out wS hSw); (try dsimp only at hSw); go_simp; (try with_reducible rfl))
            (try simp only [Act.put, List.setIfInBounds_toArray, List.set_cons_zero, List.set_cons_succ])
            refine wpAnyG_take 11 (v := ?_) (fun _ => trivial) (by simp only [List.getElem?_toArray, List.getElem?_cons_succ, List.getElem?_cons_zero]; rfl) (by kernel_rfl) (fun _ _ _ _ _ h => h) ⟨(by rfl), (by intro c h; cases h), ?_⟩ hHeld ?_
            rotate_left
            focus (intro wS hSw; (try replace hSw := HSF.out wS hSw); (try dsimp only at hSw); go_simp; (try with_reducible rfl))
            (try simp only [Act.put, List.setIfInBounds_toArray, List.set_cons_zero, List.set_cons_succ])
            refine wpAnyG_pure 12 (v := ?_) (fun _ => trivial) (by simp only [List.getElem?_toArray, List.getElem?_cons_succ, List.getElem?_cons_zero]; rfl) (by kernel_rfl) (fun _ _ _ _ _ h => h) ⟨(by rfl), (by intro c h; cases h), ?_⟩ hHeld ?_
            rotate_left
            focus (intro wS hSw; (try replace hSw := HSF.out wS hSw); (try dsimp only at hSw); go_simp; (try with_reducible rfl))
            (try simp only [Act.put, List.setIfInBounds_toArray, List.set_cons_zero, List.set_cons_succ])
            refine wpAnyG_take 13 (v := ?_) (fun _ => trivial) (by simp only [List.getElem?_toArray, List.getElem?_cons_succ, List.getElem?_cons_zero]; rfl) (by kernel_rfl) (fun _ _ _ _ _ h => h) ⟨(by rfl), (by intro c h; cases h), ?_⟩ hHeld ?_
            rotate_left
            focus (intro wS hSw; (try replace hSw := HSF.out wS hSw); (try dsimp only at hSw); go_simp; (try with_reducible rfl))
            (try simp only [Act.put, List.setIfInBounds_toArray, List.set_cons_zero, List.set_cons_succ])
            refine wpAnyG_pure 14 (v := ?_) (fun _ => trivial) (by simp only [List.getElem?_toArray, List.getElem?_cons_succ, List.getElem?_cons_zero]; rfl) (by kernel_rfl) (fun _ _ _ _ _ h => h) ⟨(by rfl), (by intro c h; cases h), ?_⟩ hHeld ?_
            rotate_left
            focus (intro wS hSw; (try replace hSw := HSF.out wS hSw); (try dsimp only at hSw); go_simp; (try with_reducible rfl))
            (try simp only [Act.put, List.setIfInBounds_toArray, List.set_cons_zero, List.set_cons_succ])
            refine wpAnyG_pure 15 (v := ?_) (fun _ => trivial) (by simp only [List.getElem?_toArray, List.getElem?_cons_succ, List.getElem?_cons_zero]; rfl) (by kernel_rfl) (fun _ _ _ _ _ h => h) ⟨(by rfl), (by intro c h; cases h), ?_⟩ hHeld ?_
            rotate_left
            focus (intro wS hSw; (try replace hSw := HSF.out wS hSw); (try dsimp only at hSw); go_simp; (try with_reducible rfl))
            (try simp only [Act.put, List.setIfInBounds_toArray, List.set_cons_zero, List.set_cons_succ])
            refine wpAnyG_pure 16 (v := ?_) (fun _ => trivial) (by simp only [List.getElem?_toArray, List.getElem?_cons_succ, List.getElem?_cons_zero]; rfl) (by kernel_rfl) (fun _ _ _ _ _ h => h) ⟨(by rfl), (by intro c h; cases h), ?_⟩ hHeld ?_
            rotate_left
            focus (intro wS hSw; (try replace hSw := HSF.out wS hSw); (try dsimp only at hSw); go_simp; (try with_reducible rfl))
            (try simp only [Act.put, List.setIfInBounds_toArray, List.set_cons_zero, List.set_cons_succ])
            refine wpAnyG_pure 17 (v := ?_) (fun _ => trivial) (by simp only [List.getElem?_toArray, List.getElem?_cons_succ, List.getElem?_cons_zero]; rfl) (by kernel_rfl) (fun _ _ _ _ _ h => h) ⟨(by rfl), (by intro c h; cases h), ?_⟩ hHeld ?_
            rotate_left
            focus (intro wS hSw; (try replace hSw := HSF.out wS hSw); (try dsimp only at hSw); go_simp; (try with_reducible rfl))
            (try simp only [Act.put, List.setIfInBounds_toArray, List.set_cons_zero, List.set_cons_succ])
            refine wpAnyG_pure 18 (v := ?_) (fun _ => trivial) (by simp only [List.getElem?_toArray, List.getElem?_cons_succ, List.getElem?_cons_zero]; rfl) (by kernel_rfl) (fun _ _ _ _ _ h => h) ⟨(by rfl), (by intro c h; cases h), ?_⟩ hHeld ?_
            rotate_left
            focus (intro wS hSw; (try replace hSw := HSF.out wS hSw); (try dsimp only at hSw); go_simp; (try with_reducible rfl))
            (try simp only [Act.put, List.setIfInBounds_toArray, List.set_cons_zero, List.set_cons_succ])
            refine wpAnyG_pure 19 (v := ?_) (fun _ => trivial) (by simp only [List.getElem?_toArray, List.getElem?_cons_succ, List.getElem?_cons_zero]; rfl) (by kernel_rfl) (fun _ _ _ _ _ h => h) ⟨(by rfl), (by intro c h; cases h), ?_⟩ hHeld ?_
            rotate_left
            focus (intro wS hSw; (try replace hSw := HSF.out wS hSw); (try dsimp only at hSw); go_simp; (try with_reducible rfl))
            (try simp only [Act.put, List.setIfInBounds_toArray, List.set_cons_zero, List.set_cons_succ])
            refine wpAnyG_pure 20 (v := ?_) (fun _ => trivial) (by simp only [List.getElem?_toArray, List.getElem?_cons_succ, List.getElem?_cons_zero]; rfl) (by kernel_rfl) (fun _ _ _ _ _ h => h) ⟨(by rfl), (by intro c h; cases h), ?_⟩ hHeld ?_
            rotate_left
            focus (intro wS hSw; (try replace hSw := HSF.out wS hSw); (try dsimp only at hSw); go_simp; (try with_reducible rfl))
            (try simp only [Act.put, List.setIfInBounds_toArray, List.set_cons_zero, List.set_cons_succ])
            refine wpAnyG_pure 21 (v := ?_) (fun _ => trivial) (by simp only [List.getElem?_toArray, List.getElem?_cons_succ, List.getElem?_cons_zero]; rfl) (by kernel_rfl) (fun _ _ _ _ _ h => h) ⟨(by rfl), (by intro c h; cases h), ?_⟩ hHeld ?_
            rotate_left
            focus (intro wS hSw; (try replace hSw := HSF.out wS hSw); (try dsimp only at hSw); go_simp; (try with_reducible rfl))
            (try simp only [Act.put, List.setIfInBounds_toArray, List.set_cons_zero, List.set_cons_succ])
            refine wpAnyG_pure 22 (v := ?_) (fun _ => trivial) (by simp only [List.getElem?_toArray, List.getElem?_cons_succ, List.getElem?_cons_zero]; rfl) (by kernel_rfl) (fun _ _ _ _ _ h => h) ⟨(by rfl), (by intro c h; cases h), ?_⟩ hHeld ?_
            rotate_left
            focus (intro wS hSw; (try replace hSw := HSF.out wS hSw); (try dsimp only at hSw); go_simp; (try with_reducible rfl))
            (try simp only [Act.put, List.setIfInBounds_toArray, List.set_cons_zero, List.set_cons_succ])
            refine wpAnyS_done (by kernel_rfl) ?_
            clear hHeld
            go_wp2_with fail
            go_roundw
            case rel => exact ⟨q + 1, by omega, by go_num, ⟨false, rfl, fun h => by cases h⟩, BB29.out.drew⟩
            case measure => simp [intOf]; omega
        · have hqI : ((q : Int) != (i : Int)) = true := by simp; omega
          have hqI2 : ¬ (q : Int) = (i : Int) := by omega
          have hfin := hid (HLq.out hqi HST.out)
          clear HLq HST
          as_aux_lemma =>
            go_upto_region 29 with fail
            refine wpIn_wide.1 (wpIn_region_S (n := 0) (fun wq => wq.cell? ⟨gV, 1, none⟩ = some (.int .i64 t) ∧ wq.cell? ⟨yb, 0, none⟩ = some (.int .i64 t)) [] (by kernel_rfl) ⟨hc1, y0⟩ (fun hHeld => ?_))
            refine wpAnyG_pure 0 (v := ?_) (fun _ => trivial) (by simp only [List.getElem?_toArray, List.getElem?_cons_succ, List.getElem?_cons_zero]; rfl) (by kernel_rfl) (fun _ _ _ _ _ h => h) ⟨(by rfl), (by intro c h; cases h), ?_⟩ hHeld ?_
            rotate_left
            focus (intro wS hSw; (try replace hSw := HSF.out wS hSw); (try dsimp only at hSw); go_simp; (try with_reducible rfl))
            (try simp only [Act.put, List.setIfInBounds_toArray, List.set_cons_zero, List.set_cons_succ])
            refine wpAnyG_pure 1 (v := ?_) (fun _ => trivial) (by simp only [List.getElem?_toArray, List.getElem?_cons_succ, List.getElem?_cons_zero]; rfl) (by kernel_rfl) (fun _ _ _ _ _ h => h) ⟨(by rfl), (by intro c h; cases h), ?_⟩ hHeld ?_
            rotate_left
            focus (intro wS hSw; (try replace hSw := HSF.out wS hSw); (try dsimp only at hSw); go_simp; (try with_reducible rfl))
            (try simp only [Act.put, List.setIfInBounds_toArray, List.set_cons_zero, List.set_cons_succ])
            refine wpAnyG_pure 2 (v := ?_) (fun _ => trivial) (by simp only [List.getElem?_toArray, List.getElem?_cons_succ, List.getElem?_cons_zero]; rfl) (by kernel_rfl) (fun _ _ _ _ _ h => h) ⟨(by rfl), (by intro c h; cases h), ?_⟩ hHeld ?_
            rotate_left
            focus (intro wS hSw; (try replace hSw := HSF.out wS hSw); (try dsimp only at hSw); go_simp; (try with_reducible rfl))
            (try simp only [Act.put, List.setIfInBounds_toArray, List.set_cons_zero, List.set_cons_succ])
            refine wpAnyG_pure 3 (v := ?_) (fun _ => trivial) (by simp only [List.getElem?_toArray, List.getElem?_cons_succ, List.getElem?_cons_zero]; rfl) (by kernel_rfl) (fun _ _ _ _ _ h => h) ⟨(by rfl), (by intro c h; cases h), ?_⟩ hHeld ?_
            rotate_left
            focus (intro wS hSw; (try replace hSw := HSF.out wS hSw); (try dsimp only at hSw); go_simp; (try with_reducible rfl))
            (try simp only [Act.put, List.setIfInBounds_toArray, List.set_cons_zero, List.set_cons_succ])
            refine wpAnyG_pure 4 (v := ?_) (fun _ => trivial) (by simp only [List.getElem?_toArray, List.getElem?_cons_succ, List.getElem?_cons_zero]; rfl) (by kernel_rfl) (fun _ _ _ _ _ h => h) ⟨(by rfl), (by intro c h; cases h), ?_⟩ hHeld ?_
            rotate_left
            focus (intro wS hSw; (try replace hSw := HSF.out wS hSw); (try dsimp only at hSw); go_simp; (try with_reducible rfl))
            (try simp only [Act.put, List.setIfInBounds_toArray, List.set_cons_zero, List.set_cons_succ])
            refine wpAnyG_pure 5 (v := ?_) (fun _ => trivial) (by simp only [List.getElem?_toArray, List.getElem?_cons_succ, List.getElem?_cons_zero]; rfl) (by kernel_rfl) (fun _ _ _ _ _ h => h) ⟨(by rfl), (by intro c h; cases h), ?_⟩ hHeld ?_
            rotate_left
            focus (intro wS hSw; (try replace hSw := HSF.out wS hSw); (try dsimp only at hSw); go_simp; (try with_reducible rfl))
            (try simp only [Act.put, List.setIfInBounds_toArray, List.set_cons_zero, List.set_cons_succ])
            refine wpAnyG_pure 6 (v := ?_) (fun _ => trivial) (by simp only [List.getElem?_toArray, List.getElem?_cons_succ, List.getElem?_cons_zero]; rfl) (by kernel_rfl) (fun _ _ _ _ _ h => h) ⟨(by rfl), (by intro c h; cases h), ?_⟩ hHeld ?_
            rotate_left
            focus (intro wS hSw; (try replace hSw := HSF.out wS hSw); (try dsimp only at hSw); go_simp; (try with_reducible rfl))
            (try simp only [Act.put, List.setIfInBounds_toArray, List.set_cons_zero, List.set_cons_succ])
            refine wpAnyG_pure 7 (v := ?_) (fun _ => trivial) (by simp only [List.getElem?_toArray, List.getElem?_cons_succ, List.getElem?_cons_zero]; rfl) (by kernel_rfl) (fun _ _ _ _ _ h => h) ⟨(by rfl), (by intro c h; cases h), ?_⟩ hHeld ?_
            rotate_left
            focus (intro wS hSw; (try replace hSw := HSF.out wS hSw); (try dsimp only at hSw); go_simp; (try with_reducible rfl))
            (try simp only [Act.put, List.setIfInBounds_toArray, List.set_cons_zero, List.set_cons_succ])
            refine wpAnyG_pure 8 (v := ?_) (fun _ => trivial) (by simp only [List.getElem?_toArray, List.getElem?_cons_succ, List.getElem?_cons_zero]; rfl) (by kernel_rfl) (fun _ _ _ _ _ h => h) ⟨(by rfl), (by intro c h; cases h), ?_⟩ hHeld ?_
            rotate_left
            focus (intro wS hSw; (try replace hSw := HSF.out wS hSw); (try dsimp only at hSw); go_simp; (try with_reducible rfl))
            (try simp only [Act.put, List.setIfInBounds_toArray, List.set_cons_zero, List.set_cons_succ])
            refine wpAnyG_pure 9 (v := ?_) (fun _ => trivial) (by simp only [List.getElem?_toArray, List.getElem?_cons_succ, List.getElem?_cons_zero]; rfl) (by kernel_rfl) (fun _ _ _ _ _ h => h) ⟨(by rfl), (by intro c h; cases h), ?_⟩ hHeld ?_
            rotate_left
            focus (intro wS hSw; (try replace hSw := HSF.out wS hSw); (try dsimp only at hSw); go_simp; (try with_reducible rfl))
            (try simp only [Act.put, List.setIfInBounds_toArray, List.set_cons_zero, List.set_cons_succ])
            refine wpAnyG_pure 10 (v := ?_) (fun _ => trivial) (by simp only [List.getElem?_toArray, List.getElem?_cons_succ, List.getElem?_cons_zero]; rfl) (by kernel_rfl) (fun _ _ _ _ _ h => h) ⟨(by rfl), (by intro c h; cases h), ?_⟩ hHeld ?_
            rotate_left
            focus (intro wS hSw; (try replace hSw := HSF.out wS hSw); (try dsimp only at hSw); go_simp; (try with_reducible rfl))
            (try simp only [Act.put, List.setIfInBounds_toArray, List.set_cons_zero, List.set_cons_succ])
            refine wpAnyG_take 11 (v := ?_) (fun _ => trivial) (by simp only [List.getElem?_toArray, List.getElem?_cons_succ, List.getElem?_cons_zero]; rfl) (by kernel_rfl) (fun _ _ _ _ _ h => h) ⟨(by rfl), (by intro c h; cases h), ?_⟩ hHeld ?_
            rotate_left
            focus (intro wS hSw; (try replace hSw := HSF.out wS hSw); (try dsimp only at hSw); go_simp; (try with_reducible rfl))
            (try simp only [Act.put, List.setIfInBounds_toArray, List.set_cons_zero, List.set_cons_succ])
            refine wpAnyG_pure 12 (v := ?_) (fun _ => trivial) (by simp only [List.getElem?_toArray, List.getElem?_cons_succ, List.getElem?_cons_zero]; rfl) (by kernel_rfl) (fun _ _ _ _ _ h => h) ⟨(by rfl), (by intro c h; cases h), ?_⟩ hHeld ?_
            rotate_left
            focus (intro wS hSw; (try replace hSw := HSF.out wS hSw); (try dsimp only at hSw); go_simp; (try with_reducible rfl))
            (try simp only [Act.put, List.setIfInBounds_toArray, List.set_cons_zero, List.set_cons_succ])
            refine wpAnyG_take 13 (v := ?_) (fun _ => trivial) (by simp only [List.getElem?_toArray, List.getElem?_cons_succ, List.getElem?_cons_zero]; rfl) (by kernel_rfl) (fun _ _ _ _ _ h => h) ⟨(by rfl), (by intro c h; cases h), ?_⟩ hHeld ?_
            rotate_left
            focus (intro wS hSw; (try replace hSw := HSF.out wS hSw); (try dsimp only at hSw); go_simp; (try with_reducible rfl))
            (try simp only [Act.put, List.setIfInBounds_toArray, List.set_cons_zero, List.set_cons_succ])
            refine wpAnyG_pure 14 (v := ?_) (fun _ => trivial) (by simp only [List.getElem?_toArray, List.getElem?_cons_succ, List.getElem?_cons_zero]; rfl) (by kernel_rfl) (fun _ _ _ _ _ h => h) ⟨(by rfl), (by intro c h; cases h), ?_⟩ hHeld ?_
            rotate_left
            focus (intro wS hSw; (try replace hSw := HSF.out wS hSw); (try dsimp only at hSw); go_simp; (try with_reducible rfl))
            (try simp only [Act.put, List.setIfInBounds_toArray, List.set_cons_zero, List.set_cons_succ])
            refine wpAnyG_pure 15 (v := ?_) (fun _ => trivial) (by simp only [List.getElem?_toArray, List.getElem?_cons_succ, List.getElem?_cons_zero]; rfl) (by kernel_rfl) (fun _ _ _ _ _ h => h) ⟨(by rfl), (by intro c h; cases h), ?_⟩ hHeld ?_
            rotate_left
            focus (intro wS hSw; (try replace hSw := HSF.out wS hSw); (try dsimp only at hSw); go_simp; (try with_reducible rfl))
            (try simp only [Act.put, List.setIfInBounds_toArray, List.set_cons_zero, List.set_cons_succ])
            refine wpAnyG_pure 16 (v := ?_) (fun _ => trivial) (by simp only [List.getElem?_toArray, List.getElem?_cons_succ, List.getElem?_cons_zero]; rfl) (by kernel_rfl) (fun _ _ _ _ _ h => h) ⟨(by rfl), (by intro c h; cases h), ?_⟩ hHeld ?_
            rotate_left
            focus (intro wS hSw; (try replace hSw := HSF.out wS hSw); (try dsimp only at hSw); go_simp; (try with_reducible rfl))
            (try simp only [Act.put, List.setIfInBounds_toArray, List.set_cons_zero, List.set_cons_succ])
            refine wpAnyG_pure 17 (v := ?_) (fun _ => trivial) (by simp only [List.getElem?_toArray, List.getElem?_cons_succ, List.getElem?_cons_zero]; rfl) (by kernel_rfl) (fun _ _ _ _ _ h => h) ⟨(by rfl), (by intro c h; cases h), ?_⟩ hHeld ?_
            rotate_left
            focus (intro wS hSw; (try replace hSw := HSF.out wS hSw); (try dsimp only at hSw); go_simp; (try with_reducible rfl))
            (try simp only [Act.put, List.setIfInBounds_toArray, List.set_cons_zero, List.set_cons_succ])
            refine wpAnyG_pure 18 (v := ?_) (fun _ => trivial) (by simp only [List.getElem?_toArray, List.getElem?_cons_succ, List.getElem?_cons_zero]; rfl) (by kernel_rfl) (fun _ _ _ _ _ h => h) ⟨(by rfl), (by intro c h; cases h), ?_⟩ hHeld ?_
            rotate_left
            focus (intro wS hSw; (try replace hSw := HSF.out wS hSw); (try dsimp only at hSw); go_simp; (try with_reducible rfl))
            (try simp only [Act.put, List.setIfInBounds_toArray, List.set_cons_zero, List.set_cons_succ])
            refine wpAnyG_pure 19 (v := ?_) (fun _ => trivial) (by simp only [List.getElem?_toArray, List.getElem?_cons_succ, List.getElem?_cons_zero]; rfl) (by kernel_rfl) (fun _ _ _ _ _ h => h) ⟨(by rfl), (by intro c h; cases h), ?_⟩ hHeld ?_
            rotate_left
            focus (intro wS hSw; (try replace hSw := HSF.out wS hSw); (try dsimp only at hSw); go_simp; (try with_reducible rfl))
            (try simp only [Act.put, List.setIfInBounds_toArray, List.set_cons_zero, List.set_cons_succ])
            refine wpAnyG_pure 20 (v := ?_) (fun _ => trivial) (by simp only [List.getElem?_toArray, List.getElem?_cons_succ, List.getElem?_cons_zero]; rfl) (by kernel_rfl) (fun _ _ _ _ _ h => h) ⟨(by rfl), (by intro c h; cases h), ?_⟩ hHeld ?_
            rotate_left
            focus (intro wS hSw; (try replace hSw := HSF.out wS hSw); (try dsimp only at hSw); go_simp; (try with_reducible rfl))
            (try simp only [Act.put, List.setIfInBounds_toArray, List.set_cons_zero, List.set_cons_succ])
            refine wpAnyG_pure 21 (v := ?_) (fun _ => trivial) (by simp only [List.getElem?_toArray, List.getElem?_cons_succ, List.getElem?_cons_zero]; rfl) (by kernel_rfl) (fun _ _ _ _ _ h => h) ⟨(by rfl), (by intro c h; cases h), ?_⟩ hHeld ?_
            rotate_left
            focus (intro wS hSw; (try replace hSw := HSF.out wS hSw); (try dsimp only at hSw); go_simp; (try with_reducible rfl))
            (try simp only [Act.put, List.setIfInBounds_toArray, List.set_cons_zero, List.set_cons_succ])
            refine wpAnyG_pure 22 (v := ?_) (fun _ => trivial) (by simp only [List.getElem?_toArray, List.getElem?_cons_succ, List.getElem?_cons_zero]; rfl) (by kernel_rfl) (fun _ _ _ _ _ h => h) ⟨(by rfl), (by intro c h; cases h), ?_⟩ hHeld ?_
            rotate_left
            focus (intro wS hSw; (try replace hSw := HSF.out wS hSw); (try dsimp only at hSw); go_simp; (try with_reducible rfl))
            (try simp only [Act.put, List.setIfInBounds_toArray, List.set_cons_zero, List.set_cons_succ])
            refine wpAnyS_done (by kernel_rfl) ?_
            clear hHeld
            go_wp2_with fail
            go_roundw
            case rel => exact ⟨q + 1, by omega, by go_num, ⟨true, rfl, fun _ => hfin.out⟩, BB29.out.drew⟩
            case measure => simp [intOf]; omega
  · skip
    have hr0 : ¬ q2 = 0 := by omega
    go_wp2_with fail
    refine HC.out.mono ?_
    rintro e w7 ⟨k7, cc7, rfl, hck, hB⟩
    have B7 := hid (B6.out.trans (hB.mono B6.out.size))
    have X7 := hid (X6.out.below hB X6.out.lt)
    have Y7 := hid (Y6.out.below hB Y6.out.lt)
    clear hB HC B6 X6 Y6 x0 x1 xz y2 yz
    obtain ⟨rfl, hk7⟩ := HLOW.out hr _ _ hck
    have hk7p : ¬ (i : Int) < k7 := by omega
    clear hck
    have y0 := Y7.out.cell 0; have y2 := Y7.out.cell 2; have yz := Y7.out.lt
    simp at y0 y2
    have b9a := hid (show Below w7.heap.size w7 (w7.alloc (Obj.cells #[] 33)) by (repeat (first | exact Below.refl _ _ | assumption | refine below_drewN ?_ _ | refine Below.drew ?_ | refine Below.alloc ?_ (by (try simp); (try omega)) _ | refine Below.setCell ?_ (by (try simp); (try omega)) _)))
    have O9a := hid (own_empty w7)
    have S9a := hid (HGR.out _ (B7.out.trans (b9a.out.mono B7.out.size)))
    have hlen9 := hid (show ([] : List Row).length + rows.length ≤ 100000000 by simp; omega)
    go_upto_region 14 with (at_builtin; refine rwRK.appL _ rfl (.tmp 82) (.tmp 83) rfl rfl O9a.out (ys := rows) (c := c) rfl S9a.out hlen9.out b9a.out.size ?_; intro A9 c9 w9 ho hg; have O9b := hid ho; have b9 := hid (b9a.out.grown hg b9a.out.size (fun q e => (own_blk O9a.out q e).1)); clear ho hg)
    rw [List.length_nil, Nat.zero_add, List.nil_append] at O9b
    clear O9a S9a hlen9 b9a
    obtain ⟨g9, cap9, cur9, hv, hg9, -⟩ := own_cell O9b.out (show 0 < rows.length by omega)
    injection hv with hv hv2 hv3
    subst hv hv3
    clear hv2
    obtain ⟨hgz, -, hcell, hfr⟩ := RK.Own.at_ O9b.out hil
    have hcell2 := hcell 2 (by decide)
    have hfr2 := hfr (i * 3 + 2)
    rw [HQ.out] at hcell2
    replace hcell2 : w9.cell? ⟨g9, i * 3 + 2, none⟩ = some (.int .i64 q2) := hcell2
    have O9c := hid (show rwRK.Own (w9.setCell ⟨g9, i * 3 + 2, none⟩ (.int .i64 (u9))) w7.heap.size (.slice (some ⟨g9, 0, none⟩) rows.length c9) (rows.set i (q0, q1, u9)) from RK.Own.set_ O9b.out hil (j := 2) (by decide) (by rw [HQ.out]; rfl))
    have b9c := hid (b9.out.setCell (p := ⟨g9, i * 3 + 2, none⟩) hg9 (.int .i64 (u9)))
    have X9 := hid (X7.out.below b9.out X7.out.lt)
    have Y9 := hid (Y7.out.below b9.out Y7.out.lt)
    have y2 := Y9.out.cell 2; have yz := Y9.out.lt
    simp at y2
    clear hcell hfr
    go_upto_region 15 with fail
    generalize (w9.setCell ⟨g9, i * 3 + 2, none⟩ (.int .i64 (u9))) = w9s at *
    clear hcell2 hfr2 hgz y2 yz X9 Y9
    have B9 := hid (B7.out.trans (b9c.out.mono B7.out.size))
    have X9 := hid (X7.out.below b9c.out X7.out.lt)
    have Y9 := hid (Y7.out.below b9c.out Y7.out.lt)
    obtain ⟨A9x, c9x, hv, -, -, hs⟩ := RK.Own.slr O9c.out (HSET.out (q0, q1, u9) ⟨HXO.out.1, HXO.out.2.1, HU9.out⟩)
    injection hv with hv hv2 hv3
    subst hv hv3
    clear hv2
    have HC := hid (HCK.out w9s B9.out (some ⟨g9, 0, none⟩) c9 _ (by rw [List.length_set]; omega) hs)
    rw [List.length_set] at HC
    have x0 := X9.out.cell 0; have x1 := X9.out.cell 1; have xz := X9.out.lt
    have y2 := Y9.out.cell 2; have yz := Y9.out.lt
    simp at x0 x1 y2
    clear hs O9b O9c b9 b9c
    go_wp2_with fail
    refine HC.out.mono ?_
    rintro e w10 ⟨k10, cc10, rfl, hck, hB⟩
    have B10 := hid (B9.out.trans (hB.mono B9.out.size))
    have X10 := hid (X9.out.below hB X9.out.lt)
    have Y10 := hid (Y9.out.below hB Y9.out.lt)
    clear hB HC B9 X9 Y9 x0 x1 xz y2 yz
    clear hck
    have y0 := Y10.out.cell 0; have y2 := Y10.out.cell 2; have yz := Y10.out.lt
    simp at y0 y2
    have hi1 : IntKind.i64.wrap ((i : Int) + 1) = (i : Int) + 1 := IntWalk.i64_in _ (by omega)
    have hi1a : 0 ≤ (i : Int) + 1 := by omega
    have hi1b : (i : Int) + 1 ≤ c := by omega
    have hi2 : (i : Int) ≤ rows.length := by omega
    have hi3 : 0 ≤ (i : Int) := by omega
    have hcci2 : ¬ c = i := by omega
    have b12d := hid (show Below w10.heap.size w10 w10.drew from (Below.refl _ _).drew)
    go_upto_region 18 with fail
    refine wpIn_wide.1 (wpIn_region_S (n := 0) (fun _ => True) [] (by kernel_rfl) trivial (fun hHeld => ?_))
    generalize w10.drew = wd12 at *
    have B12d := hid (B10.out.trans (b12d.out.mono B10.out.size))
    have X12d := hid (X10.out.below b12d.out X10.out.lt)
    have Y12d := hid (Y10.out.below b12d.out Y10.out.lt)
    clear y0 y2 yz X10 Y10 B10 b12d
    refine wpAnyG_pure 1 (v := ?_) (fun _ => trivial) (by simp only [List.getElem?_toArray, List.getElem?_cons_succ, List.getElem?_cons_zero]; rfl) (by kernel_rfl) (fun _ _ _ _ _ h => h) ⟨(by rfl), (by intro c h; cases h), ?_⟩ hHeld ?_
    rotate_left
    focus (intro wS hSw; (try replace hSw := HSF.out wS hSw); (try dsimp only at hSw); go_simp; (try with_reducible rfl))
    (try simp only [Act.put, List.setIfInBounds_toArray, List.set_cons_zero, List.set_cons_succ])
    refine wpAnyG_pure 2 (v := ?_) (fun _ => trivial) (by simp only [List.getElem?_toArray, List.getElem?_cons_succ, List.getElem?_cons_zero]; rfl) (by kernel_rfl) (fun _ _ _ _ _ h => h) ⟨(by rfl), (by intro c h; cases h), ?_⟩ hHeld ?_
    rotate_left
    focus (intro wS hSw; (try replace hSw := HSF.out wS hSw); (try dsimp only at hSw); go_simp; (try with_reducible rfl))
    (try simp only [Act.put, List.setIfInBounds_toArray, List.set_cons_zero, List.set_cons_succ])
    refine wpAnyG_pure 3 (v := ?_) (fun _ => trivial) (by simp only [List.getElem?_toArray, List.getElem?_cons_succ, List.getElem?_cons_zero]; rfl) (by kernel_rfl) (fun _ _ _ _ _ h => h) ⟨(by rfl), (by intro c h; cases h), ?_⟩ hHeld ?_
    rotate_left
    focus (intro wS hSw; (try replace hSw := HSF.out wS hSw); (try dsimp only at hSw); go_simp; (try with_reducible rfl))
    (try simp only [Act.put, List.setIfInBounds_toArray, List.set_cons_zero, List.set_cons_succ])
    refine wpAnyG_pure 4 (v := ?_) (fun _ => trivial) (by simp only [List.getElem?_toArray, List.getElem?_cons_succ, List.getElem?_cons_zero]; rfl) (by kernel_rfl) (fun _ _ _ _ _ h => h) ⟨(by rfl), (by intro c h; cases h), ?_⟩ hHeld ?_
    rotate_left
    focus (intro wS hSw; (try replace hSw := HSF.out wS hSw); (try dsimp only at hSw); go_simp; (try with_reducible rfl))
    (try simp only [Act.put, List.setIfInBounds_toArray, List.set_cons_zero, List.set_cons_succ])
    refine wpAnyG_pure 6 (v := ?_) (fun _ => trivial) (by simp only [List.getElem?_toArray, List.getElem?_cons_succ, List.getElem?_cons_zero]; rfl) (by kernel_rfl) (fun _ _ _ _ _ h => h) ⟨(by rfl), (by intro c h; cases h), ?_⟩ hHeld ?_
    rotate_left
    focus (intro wS hSw; (try replace hSw := HSF.out wS hSw); (try dsimp only at hSw); go_simp; (try with_reducible rfl))
    (try simp only [Act.put, List.setIfInBounds_toArray, List.set_cons_zero, List.set_cons_succ])
    refine wpAnyG_pure 7 (v := ?_) (fun _ => trivial) (by simp only [List.getElem?_toArray, List.getElem?_cons_succ, List.getElem?_cons_zero]; rfl) (by kernel_rfl) (fun _ _ _ _ _ h => h) ⟨(by rfl), (by intro c h; cases h), ?_⟩ hHeld ?_
    rotate_left
    focus (intro wS hSw; (try replace hSw := HSF.out wS hSw); (try dsimp only at hSw); go_simp; (try with_reducible rfl))
    (try simp only [Act.put, List.setIfInBounds_toArray, List.set_cons_zero, List.set_cons_succ])
    refine wpAnyG_pure 8 (v := ?_) (fun _ => trivial) (by simp only [List.getElem?_toArray, List.getElem?_cons_succ, List.getElem?_cons_zero]; rfl) (by kernel_rfl) (fun _ _ _ _ _ h => h) ⟨(by rfl), (by intro c h; cases h), ?_⟩ hHeld ?_
    rotate_left
    focus (intro wS hSw; (try replace hSw := HSF.out wS hSw); (try dsimp only at hSw); go_simp; (try with_reducible rfl))
    (try simp only [Act.put, List.setIfInBounds_toArray, List.set_cons_zero, List.set_cons_succ])
    refine wpAnyS_ready [0] (by kernel_rfl) (by simp) (AllReadyS.cons (by simp only [List.getElem?_toArray, List.getElem?_cons_succ, List.getElem?_cons_zero]; rfl) rfl (fun K hK => ?_) AllReadyS.nil)
    go_simp
    have b12e := hid (show Below wd12.heap.size wd12 (wd12.alloc (Obj.cells #[] 33)) by (repeat (first | exact Below.refl _ _ | assumption | refine below_drewN ?_ _ | refine Below.drew ?_ | refine Below.alloc ?_ (by (try simp); (try omega)) _ | refine Below.setCell ?_ (by (try simp); (try omega)) _)))
    have O12e := hid (own_empty wd12)
    have S12e := hid (slr_take (HGR.out _ (B12d.out.trans (b12e.out.mono B12d.out.size))) (i + 1))
    have hT := hid (show (rows.take (i + 1)).length = (i + 1) by rw [List.length_take]; omega)
    obtain ⟨T12, hTT⟩ : ∃ T, T = rows.take (i + 1) := ⟨_, rfl⟩
    rw [← hTT] at hT S12e
    have HTT12 := hid hTT
    clear hTT
    refine hK.out _ _ trivial ?_
    clear hK K
    (try simp only [Act.put, List.setIfInBounds_toArray, List.set_cons_zero, List.set_cons_succ])
    refine wpAnyS_ready [5] (by kernel_rfl) (by simp) (AllReadyS.cons (by simp only [List.getElem?_toArray, List.getElem?_cons_succ, List.getElem?_cons_zero]; rfl) rfl (fun K hK => ?_) AllReadyS.nil)
    refine rwRK.appS (fun _ => trivial) (.tmp 105) (.tmp 109) rfl rfl O12e.out (ys := T12) (c := c) (by rw [hT.out]; rfl) S12e.out (by have := hT.out; simp; omega) b12e.out.size ?_
    intro A12f c12f w12f ho hg
    have O12f := hid (show rwRK.Own w12f wd12.heap.size (.slice A12f T12.length c12f) T12 by simpa using ho)
    have b12f := hid (b12e.out.grown hg b12e.out.size (fun q e => (own_blk O12e.out q e).1))
    rw [List.length_nil, Nat.zero_add]
    have S12f := hid (slr_drop (HGR.out _ (B12d.out.trans (b12f.out.mono B12d.out.size))) i)
    have hD := hid (show (rows.drop i).length = rows.length - i by rw [List.length_drop])
    obtain ⟨D12, hDD⟩ : ∃ D, D = rows.drop i := ⟨_, rfl⟩
    rw [← hDD] at hD S12f
    have HDD12 := hid hDD
    clear hDD
    refine hK.out _ _ trivial ?_
    clear hK K ho hg O12e S12e
    (try simp only [Act.put, List.setIfInBounds_toArray, List.set_cons_zero, List.set_cons_succ])
    refine wpAnyS_ready [9] (by kernel_rfl) (by simp) (AllReadyS.cons (by simp only [List.getElem?_toArray, List.getElem?_cons_succ, List.getElem?_cons_zero]; rfl) rfl (fun K hK => ?_) AllReadyS.nil)
    refine rwRK.appS (fun _ => trivial) (.tmp 110) (.tmp 113) rfl rfl O12f.out (ys := D12) (c := c - i) (by rw [hD.out]; rfl) S12f.out (by have := hT.out; have := hD.out; omega) b12f.out.size ?_
    intro A12 c12 w12 ho hg
    have O12 := hid ho
    have b12 := hid (b12f.out.grown hg b12f.out.size (fun q e => (own_blk O12f.out q e).1))
    refine hK.out _ _ trivial ?_
    clear hK K ho hg O12f S12f b12e b12f hHeld
    (try simp only [Act.put, List.setIfInBounds_toArray, List.set_cons_zero, List.set_cons_succ])
    have hHeld : True := trivial
    refine wpAnyG_pure 10 (v := ?_) (fun _ => trivial) (by simp only [List.getElem?_toArray, List.getElem?_cons_succ, List.getElem?_cons_zero]; rfl) (by kernel_rfl) (fun _ _ _ _ _ h => h) ⟨(by rfl), (by intro c h; cases h), ?_⟩ hHeld ?_
    rotate_left
    focus (intro wS hSw; (try replace hSw := HSF.out wS hSw); (try dsimp only at hSw); go_simp; (try with_reducible rfl))
    (try simp only [Act.put, List.setIfInBounds_toArray, List.set_cons_zero, List.set_cons_succ])
    refine wpAnyS_done (by kernel_rfl) ?_
    clear hHeld
    have B12 := hid (B12d.out.trans (b12.out.mono B12d.out.size))
    have X12 := hid (X12d.out.below b12.out X12d.out.lt)
    have Y12 := hid (Y12d.out.below b12.out Y12d.out.lt)
    have hall12 : ∀ x ∈ T12 ++ D12, rwRK.ok x := fun x hx => by
      rw [HTT12.out, HDD12.out] at hx
      rcases List.mem_append.1 hx with hx | hx
      · exact HRO.out x (List.mem_of_mem_take hx)
      · exact HRO.out x (List.mem_of_mem_drop hx)
    obtain ⟨A12x, c12x, hv, -, -, hs⟩ := RK.Own.slr O12.out hall12
    injection hv with hv hv2 hv3
    subst hv hv3
    clear hv2
    have HC := hid (HCK.out w12 B12.out A12 c12 (T12 ++ D12) (by rw [List.length_append]; have := hT.out; have := hD.out; omega) hs)
    rw [List.length_append] at HC
    have HTL12 := hid hT.out; have HDL12 := hid hD.out
    have x0 := X12.out.cell 0; have x1 := X12.out.cell 1; have xz := X12.out.lt
    have y2 := Y12.out.cell 2; have yz := Y12.out.lt
    simp at x0 x1 y2
    clear hs O12 b12 hall12 hT hD B12d X12d Y12d
    go_wp2_with fail
    refine HC.out.mono ?_
    rintro e w13 ⟨k13, cc13, rfl, hck, hB⟩
    have B13 := hid (B12.out.trans (hB.mono B12.out.size))
    have X13 := hid (X12.out.below hB X12.out.lt)
    have Y13 := hid (Y12.out.below hB Y12.out.lt)
    clear hB HC B12 X12 Y12 x0 x1 xz y2 yz
    rw [HTT12.out, HDD12.out] at hck
    obtain ⟨rfl, rfl⟩ := HTW.out _ _ hck
    clear hck
    have y0 := Y13.out.cell 0; have y2 := Y13.out.cell 2; have yz := Y13.out.lt
    simp at y0 y2
    go_upto_region 22 with fail
    have hi4 : (i : Int) ≤ c := by omega
    have hi5 : (i : Int) + 1 ≤ rows.length := by omega
    have y0 := Y13.out.cell 0
    have b14d := hid (show Below w13.heap.size w13 w13.drew from (Below.refl _ _).drew)
    refine wpIn_wide.1 (wpIn_region_S (n := 0) (fun _ => True) [] (by kernel_rfl) trivial (fun hHeld => ?_))
    generalize w13.drew = wd14 at *
    have B14d := hid (B13.out.trans (b14d.out.mono B13.out.size))
    have X14d := hid (X13.out.below b14d.out X13.out.lt)
    have Y14d := hid (Y13.out.below b14d.out Y13.out.lt)
    clear y0 y2 yz X13 Y13 B13 b14d
    refine wpAnyG_pure 1 (v := ?_) (fun _ => trivial) (by simp only [List.getElem?_toArray, List.getElem?_cons_succ, List.getElem?_cons_zero]; rfl) (by kernel_rfl) (fun _ _ _ _ _ h => h) ⟨(by rfl), (by intro c h; cases h), ?_⟩ hHeld ?_
    rotate_left
    focus (intro wS hSw; (try replace hSw := HSF.out wS hSw); (try dsimp only at hSw); go_simp; (try with_reducible rfl))
    (try simp only [Act.put, List.setIfInBounds_toArray, List.set_cons_zero, List.set_cons_succ])
    refine wpAnyG_pure 2 (v := ?_) (fun _ => trivial) (by simp only [List.getElem?_toArray, List.getElem?_cons_succ, List.getElem?_cons_zero]; rfl) (by kernel_rfl) (fun _ _ _ _ _ h => h) ⟨(by rfl), (by intro c h; cases h), ?_⟩ hHeld ?_
    rotate_left
    focus (intro wS hSw; (try replace hSw := HSF.out wS hSw); (try dsimp only at hSw); go_simp; (try with_reducible rfl))
    (try simp only [Act.put, List.setIfInBounds_toArray, List.set_cons_zero, List.set_cons_succ])
    refine wpAnyG_pure 3 (v := ?_) (fun _ => trivial) (by simp only [List.getElem?_toArray, List.getElem?_cons_succ, List.getElem?_cons_zero]; rfl) (by kernel_rfl) (fun _ _ _ _ _ h => h) ⟨(by rfl), (by intro c h; cases h), ?_⟩ hHeld ?_
    rotate_left
    focus (intro wS hSw; (try replace hSw := HSF.out wS hSw); (try dsimp only at hSw); go_simp; (try with_reducible rfl))
    (try simp only [Act.put, List.setIfInBounds_toArray, List.set_cons_zero, List.set_cons_succ])
    refine wpAnyG_pure 5 (v := ?_) (fun _ => trivial) (by simp only [List.getElem?_toArray, List.getElem?_cons_succ, List.getElem?_cons_zero]; rfl) (by kernel_rfl) (fun _ _ _ _ _ h => h) ⟨(by rfl), (by intro c h; cases h), ?_⟩ hHeld ?_
    rotate_left
    focus (intro wS hSw; (try replace hSw := HSF.out wS hSw); (try dsimp only at hSw); go_simp; (try with_reducible rfl))
    (try simp only [Act.put, List.setIfInBounds_toArray, List.set_cons_zero, List.set_cons_succ])
    refine wpAnyG_pure 6 (v := ?_) (fun _ => trivial) (by simp only [List.getElem?_toArray, List.getElem?_cons_succ, List.getElem?_cons_zero]; rfl) (by kernel_rfl) (fun _ _ _ _ _ h => h) ⟨(by rfl), (by intro c h; cases h), ?_⟩ hHeld ?_
    rotate_left
    focus (intro wS hSw; (try replace hSw := HSF.out wS hSw); (try dsimp only at hSw); go_simp; (try with_reducible rfl))
    (try simp only [Act.put, List.setIfInBounds_toArray, List.set_cons_zero, List.set_cons_succ])
    refine wpAnyG_pure 7 (v := ?_) (fun _ => trivial) (by simp only [List.getElem?_toArray, List.getElem?_cons_succ, List.getElem?_cons_zero]; rfl) (by kernel_rfl) (fun _ _ _ _ _ h => h) ⟨(by rfl), (by intro c h; cases h), ?_⟩ hHeld ?_
    rotate_left
    focus (intro wS hSw; (try replace hSw := HSF.out wS hSw); (try dsimp only at hSw); go_simp; (try with_reducible rfl))
    (try simp only [Act.put, List.setIfInBounds_toArray, List.set_cons_zero, List.set_cons_succ])
    refine wpAnyG_pure 8 (v := ?_) (fun _ => trivial) (by simp only [List.getElem?_toArray, List.getElem?_cons_succ, List.getElem?_cons_zero]; rfl) (by kernel_rfl) (fun _ _ _ _ _ h => h) ⟨(by rfl), (by intro c h; cases h), ?_⟩ hHeld ?_
    rotate_left
    focus (intro wS hSw; (try replace hSw := HSF.out wS hSw); (try dsimp only at hSw); go_simp; (try with_reducible rfl))
    (try simp only [Act.put, List.setIfInBounds_toArray, List.set_cons_zero, List.set_cons_succ])
    refine wpAnyS_ready [0] (by kernel_rfl) (by simp) (AllReadyS.cons (by simp only [List.getElem?_toArray, List.getElem?_cons_succ, List.getElem?_cons_zero]; rfl) rfl (fun K hK => ?_) AllReadyS.nil)
    go_simp
    have b14e := hid (show Below wd14.heap.size wd14 (wd14.alloc (Obj.cells #[] 33)) by (repeat (first | exact Below.refl _ _ | assumption | refine below_drewN ?_ _ | refine Below.drew ?_ | refine Below.alloc ?_ (by (try simp); (try omega)) _ | refine Below.setCell ?_ (by (try simp); (try omega)) _)))
    have O14e := hid (own_empty wd14)
    have S14e := hid (slr_take (HGR.out _ (B14d.out.trans (b14e.out.mono B14d.out.size))) i)
    have hT := hid (show (rows.take i).length = i by rw [List.length_take]; omega)
    obtain ⟨T14, hTT⟩ : ∃ T, T = rows.take i := ⟨_, rfl⟩
    rw [← hTT] at hT S14e
    have HTT14 := hid hTT
    clear hTT
    refine hK.out _ _ trivial ?_
    clear hK K
    (try simp only [Act.put, List.setIfInBounds_toArray, List.set_cons_zero, List.set_cons_succ])
    refine wpAnyS_ready [4] (by kernel_rfl) (by simp) (AllReadyS.cons (by simp only [List.getElem?_toArray, List.getElem?_cons_succ, List.getElem?_cons_zero]; rfl) rfl (fun K hK => ?_) AllReadyS.nil)
    refine rwRK.appS (fun _ => trivial) (.tmp 129) (.tmp 132) rfl rfl O14e.out (ys := T14) (c := c) (by rw [hT.out]; rfl) S14e.out (by have := hT.out; simp; omega) b14e.out.size ?_
    intro A14f c14f w14f ho hg
    have O14f := hid (show rwRK.Own w14f wd14.heap.size (.slice A14f T14.length c14f) T14 by simpa using ho)
    have b14f := hid (b14e.out.grown hg b14e.out.size (fun q e => (own_blk O14e.out q e).1))
    rw [List.length_nil, Nat.zero_add]
    have S14f := hid (slr_last (HGR.out _ (B14d.out.trans (b14f.out.mono B14d.out.size))) hc (by omega))
    have hD := hid (show (rows.drop (i + 1)).length = rows.length - (i + 1) by rw [List.length_drop])
    obtain ⟨D14, hDD⟩ : ∃ D, D = rows.drop (i + 1) := ⟨_, rfl⟩
    rw [← hDD] at hD S14f
    have HDD14 := hid hDD
    clear hDD
    refine hK.out _ _ trivial ?_
    clear hK K ho hg O14e S14e
    (try simp only [Act.put, List.setIfInBounds_toArray, List.set_cons_zero, List.set_cons_succ])
    refine wpAnyS_ready [9] (by kernel_rfl) (by simp) (AllReadyS.cons (by simp only [List.getElem?_toArray, List.getElem?_cons_succ, List.getElem?_cons_zero]; rfl) rfl (fun K hK => ?_) AllReadyS.nil)
    refine rwRK.appS (fun _ => trivial) (.tmp 133) (.tmp 137) rfl rfl O14f.out (ys := D14) (c := c - (i + 1)) (by rw [hD.out]; rfl) S14f.out (by have := hT.out; have := hD.out; omega) b14f.out.size ?_
    intro A14 c14 w14 ho hg
    have O14 := hid ho
    have b14 := hid (b14f.out.grown hg b14f.out.size (fun q e => (own_blk O14f.out q e).1))
    refine hK.out _ _ trivial ?_
    clear hK K ho hg O14f S14f b14e b14f hHeld
    (try simp only [Act.put, List.setIfInBounds_toArray, List.set_cons_zero, List.set_cons_succ])
    have hHeld : True := trivial
    refine wpAnyG_pure 10 (v := ?_) (fun _ => trivial) (by simp only [List.getElem?_toArray, List.getElem?_cons_succ, List.getElem?_cons_zero]; rfl) (by kernel_rfl) (fun _ _ _ _ _ h => h) ⟨(by rfl), (by intro c h; cases h), ?_⟩ hHeld ?_
    rotate_left
    focus (intro wS hSw; (try replace hSw := HSF.out wS hSw); (try dsimp only at hSw); go_simp; (try with_reducible rfl))
    (try simp only [Act.put, List.setIfInBounds_toArray, List.set_cons_zero, List.set_cons_succ])
    refine wpAnyS_done (by kernel_rfl) ?_
    generalize (if c = i + 1 then some (⟨b, off, none⟩ : Addr) else some ⟨b, off + (i + 1) * 3, none⟩) = aq14 at *
    clear hHeld
    have B14 := hid (B14d.out.trans (b14.out.mono B14d.out.size))
    have X14 := hid (X14d.out.below b14.out X14d.out.lt)
    have Y14 := hid (Y14d.out.below b14.out Y14d.out.lt)
    have hall14 : ∀ x ∈ T14 ++ D14, rwRK.ok x := fun x hx => by
      rw [HTT14.out, HDD14.out] at hx
      rcases List.mem_append.1 hx with hx | hx
      · exact HRO.out x (List.mem_of_mem_take hx)
      · exact HRO.out x (List.mem_of_mem_drop hx)
    obtain ⟨A14x, c14x, hv, -, -, hs⟩ := RK.Own.slr O14.out hall14
    injection hv with hv hv2 hv3
    subst hv hv3
    clear hv2
    have HC := hid (HCK.out w14 B14.out A14 c14 (T14 ++ D14) (by rw [List.length_append]; have := hT.out; have := hD.out; omega) hs)
    rw [List.length_append] at HC
    have HTL14 := hid hT.out; have HDL14 := hid hD.out
    have x0 := X14.out.cell 0; have x1 := X14.out.cell 1; have xz := X14.out.lt
    have y2 := Y14.out.cell 2; have yz := Y14.out.lt
    simp at x0 x1 y2
    clear hs O14 b14 hall14 hT hD B14d X14d Y14d
    go_wp2_with fail
    refine HC.out.mono ?_
    rintro e w15 ⟨k15, cc15, rfl, hck, hB⟩
    have B15 := hid (B14.out.trans (hB.mono B14.out.size))
    have X15 := hid (X14.out.below hB X14.out.lt)
    have Y15 := hid (Y14.out.below hB Y14.out.lt)
    clear hB HC B14 X14 Y14 x0 x1 xz y2 yz
    rw [HTT14.out, HDD14.out] at hck
    have hlen15 : (rows.take i ++ rows.drop (i + 1)).length = T14.length + D14.length := by rw [List.length_append, HTT14.out, HDD14.out]
    have HLQ := hid (fun (q : Nat) (hq : q < rows.length) (hqi : q ≠ i) (hs : stepF g rows rows[q].1 act = some q0) => show cc15 = 25 ∧ 0 ≤ k15 ∧ k15 < ((T14.length + D14.length : Nat) : Int) from by rw [← hlen15]; exact HLS.out q hq hqi hs _ _ hck)
    clear hck hlen15
    have y0 := Y15.out.cell 0; have y2 := Y15.out.cell 2; have yz := Y15.out.lt
    simp at y0 y2
    go_upto_region 26 with fail
    go_loopw [25, 26, 27] (fun nv qv _ wr => ∃ q : Nat, q ≤ rows.length ∧ qv = .int .i64 q ∧ BoolIs nv (cc15 = 25 ∧ 0 ≤ k15 ∧ k15 < ((T14.length + D14.length : Nat) : Int)) ∧ Below w15.heap.size w15 wr) (fun _ qv _ _ => rows.length - (intOf qv).toNat)
    case atStart => exact ⟨0, by omega, rfl, ⟨false, rfl, fun h => by cases h⟩, Below.refl _ _⟩
    case round =>
      obtain ⟨q, hq, rfl, ⟨nb, rfl, hnb⟩, hB⟩ := hrel
      have HNB := hid hnb; have HB := hid hB
      have BR := hid (B15.out.trans (hB.mono B15.out.size))
      have XR := hid (X15.out.below hB X15.out.lt)
      have YR := hid (Y15.out.below hB Y15.out.lt)
      clear hnb hB y0 y2 yz
      by_cases hql : q < rows.length
      case neg =>
        cases nb with
        | false =>
          as_aux_lemma =>
            go_wp2_with fail
            go_ret
            exact ⟨rfl, BR.out⟩
        | true =>
          obtain ⟨e1, e2, e3⟩ := HNB.out rfl
          subst e1
          have e2b : ¬ k15 < 0 := by omega
          have e3b : ¬ ((T14.length : Int) + D14.length) ≤ k15 := by omega
          as_aux_lemma =>
            go_wp2_with fail
            go_ret
            exact ⟨rfl, BR.out⟩
      have hqlI : (q : Int) < rows.length := by omega
      obtain ⟨b', off', hA, -, c1, -, -, -⟩ := (HGR.out _ BR.out).row hql
      simp only [Option.some.injEq, Addr.mk.injEq, and_true] at hA
      obtain ⟨rfl, rfl⟩ := hA
      have hzb : b < wr.heap.size := by have := BR.out.size; omega
      have HIPq := hid (HIP.out q hql)
      have HLq := hid (HLQ.out q hql)
      have HROq := hid (HRO.out _ (List.getElem_mem hql))
      generalize rows[q] = rq at *
      obtain ⟨r0, r1, r2⟩ := rq
      simp only at c1 HIPq HLq
      have x0 := XR.out.cell 0; have x1 := XR.out.cell 1; have xz := XR.out.lt
      simp at x0 x1
      have HFL := hid (show folL g rows r0 [act] = r0 :: (match stepF g rows r0 act with | none => [] | some t => [t]) by
        unfold folL
        rw [HIPq.out, if_pos rfl]
        cases hs : stepF g rows r0 act with
        | none => rw [folF_stop hs]
        | some t => rw [folF_step hs]; rfl)
      have BDq := hid (show Below wr.heap.size wr wr.drew from (Below.refl _ _).drew)
      have HSF := hid (fun (wq : World) (hq : Below wr.heap.size wr wq) => And.intro ((bcell hq _ _ xz).trans x0) (And.intro ((bcell hq _ _ xz).trans x1) ((bcell hq _ _ hzb).trans c1)))
      clear x0 x1 c1
      go_upto_region 28 with fail
      refine wpIn_wide.1 (wpIn_region_S (n := 0) (fun wq => Below wr.heap.size wr wq) [] (by kernel_rfl) BDq.out (fun hHeld => ?_))
      generalize wr.drew = wdq at *
      refine wpAnyG_take 0 (v := ?_) (fun _ => trivial) (by simp only [List.getElem?_toArray, List.getElem?_cons_succ, List.getElem?_cons_zero]; rfl) (by kernel_rfl) (fun _ _ _ _ _ h => h) ⟨(by rfl), (by intro c h; cases h), ?_⟩ hHeld ?_
      rotate_left
      focus (intro wS hSw; (try replace hSw := HSF.out wS hSw); (try dsimp only at hSw); go_simp; (try with_reducible rfl))
      (try simp only [Act.put, List.setIfInBounds_toArray, List.set_cons_zero, List.set_cons_succ])
      refine wpAnyG_pure 1 (v := ?_) (fun _ => trivial) (by simp only [List.getElem?_toArray, List.getElem?_cons_succ, List.getElem?_cons_zero]; rfl) (by kernel_rfl) (fun _ _ _ _ _ h => h) ⟨(by rfl), (by intro c h; cases h), ?_⟩ hHeld ?_
      rotate_left
      focus (intro wS hSw; (try replace hSw := HSF.out wS hSw); (try dsimp only at hSw); go_simp; (try with_reducible rfl))
      (try simp only [Act.put, List.setIfInBounds_toArray, List.set_cons_zero, List.set_cons_succ])
      refine wpAnyG_pure 2 (v := ?_) (fun _ => trivial) (by simp only [List.getElem?_toArray, List.getElem?_cons_succ, List.getElem?_cons_zero]; rfl) (by kernel_rfl) (fun _ _ _ _ _ h => h) ⟨(by rfl), (by intro c h; cases h), ?_⟩ hHeld ?_
      rotate_left
      focus (intro wS hSw; (try replace hSw := HSF.out wS hSw); (try dsimp only at hSw); go_simp; (try with_reducible rfl))
      (try simp only [Act.put, List.setIfInBounds_toArray, List.set_cons_zero, List.set_cons_succ])
      refine wpAnyG_pure 3 (v := ?_) (fun _ => trivial) (by simp only [List.getElem?_toArray, List.getElem?_cons_succ, List.getElem?_cons_zero]; rfl) (by kernel_rfl) (fun _ _ _ _ _ h => h) ⟨(by rfl), (by intro c h; cases h), ?_⟩ hHeld ?_
      rotate_left
      focus (intro wS hSw; (try replace hSw := HSF.out wS hSw); (try dsimp only at hSw); go_simp; (try with_reducible rfl))
      (try simp only [Act.put, List.setIfInBounds_toArray, List.set_cons_zero, List.set_cons_succ])
      refine wpAnyG_pure 4 (v := ?_) (fun _ => trivial) (by simp only [List.getElem?_toArray, List.getElem?_cons_succ, List.getElem?_cons_zero]; rfl) (by kernel_rfl) (fun _ _ _ _ _ h => h) ⟨(by rfl), (by intro c h; cases h), ?_⟩ hHeld ?_
      rotate_left
      focus (intro wS hSw; (try replace hSw := HSF.out wS hSw); (try dsimp only at hSw); go_simp; (try with_reducible rfl))
      (try simp only [Act.put, List.setIfInBounds_toArray, List.set_cons_zero, List.set_cons_succ])
      refine wpAnyG_pure 5 (v := ?_) (fun _ => trivial) (by simp only [List.getElem?_toArray, List.getElem?_cons_succ, List.getElem?_cons_zero]; rfl) (by kernel_rfl) (fun _ _ _ _ _ h => h) ⟨(by rfl), (by intro c h; cases h), ?_⟩ hHeld ?_
      rotate_left
      focus (intro wS hSw; (try replace hSw := HSF.out wS hSw); (try dsimp only at hSw); go_simp; (try with_reducible rfl))
      (try simp only [Act.put, List.setIfInBounds_toArray, List.set_cons_zero, List.set_cons_succ])
      refine wpAnyG_take 6 (v := ?_) (fun _ => trivial) (by simp only [List.getElem?_toArray, List.getElem?_cons_succ, List.getElem?_cons_zero]; rfl) (by kernel_rfl) (fun _ _ _ _ _ h => h) ⟨(by rfl), (by intro c h; cases h), ?_⟩ hHeld ?_
      rotate_left
      focus (intro wS hSw; (try replace hSw := HSF.out wS hSw); (try dsimp only at hSw); go_simp; (try with_reducible rfl))
      (try simp only [Act.put, List.setIfInBounds_toArray, List.set_cons_zero, List.set_cons_succ])
      refine wpAnyG_pure 7 (v := ?_) (fun _ => trivial) (by simp only [List.getElem?_toArray, List.getElem?_cons_succ, List.getElem?_cons_zero]; rfl) (by kernel_rfl) (fun _ _ _ _ _ h => h) ⟨(by rfl), (by intro c h; cases h), ?_⟩ hHeld ?_
      rotate_left
      focus (intro wS hSw; (try replace hSw := HSF.out wS hSw); (try dsimp only at hSw); go_simp; (try with_reducible rfl))
      (try simp only [Act.put, List.setIfInBounds_toArray, List.set_cons_zero, List.set_cons_succ])
      refine wpAnyS_ready [8] (by kernel_rfl) (by simp) (AllReadyS.cons (by simp only [List.getElem?_toArray, List.getElem?_cons_succ, List.getElem?_cons_zero]; rfl) rfl (fun K hK => ?_) AllReadyS.nil)
      go_simp
      have B28 := hid (BDq.out.alloc BDq.out.size (Obj.cells #[.int .i64 act] 3))
      have SA := hid (slr_ints (w := wdq.alloc (Obj.cells #[.int .i64 act] 3)) (g := wdq.heap.size) (l := [act]) (Blk.new wdq 3 #[.int .i64 act]) (fun x hx => by rw [List.mem_singleton.1 hx]; exact HACTI.out))
      have HFq := hid (HFO.out _ (BR.out.trans (B28.out.mono BR.out.size)) HASC.out r0 _ SA.out)
      refine hK.out _ _ B28.out ?_
      clear hK K
      (try simp only [Act.put, List.setIfInBounds_toArray, List.set_cons_zero, List.set_cons_succ])
      refine wpAnyS_ready [9] (by kernel_rfl) (by simp) (AllReadyS.cons (by simp only [List.getElem?_toArray, List.getElem?_cons_succ, List.getElem?_cons_zero]; rfl) rfl (fun K hK => ?_) AllReadyS.nil)
      refine callV (by intro c h; cases h) (by go_simp; try with_reducible rfl) HFq.out ?_
      intro vF w29 hx
      obtain ⟨ho29, hB29⟩ := hx
      have B29 := hid (B28.out.trans (hB29.mono B28.out.size))
      have OV := hid ho29
      rw [HFL.out] at OV
      refine hK.out _ _ B29.out ?_
      (try simp only [Act.put, List.setIfInBounds_toArray, List.set_cons_zero, List.set_cons_succ])
      clear hK K ho29 hB29 hHeld HFq SA B28 HFL
      have hHeld := B29.out
      refine wpAnyG_pure 10 (v := ?_) (fun _ => trivial) (by simp only [List.getElem?_toArray, List.getElem?_cons_succ, List.getElem?_cons_zero]; rfl) (by kernel_rfl) (fun _ _ _ _ _ h => h) ⟨(by rfl), (by intro c h; cases h), ?_⟩ hHeld ?_
      rotate_left
      focus (intro wS hSw; (try replace hSw := HSF.out wS hSw); (try dsimp only at hSw); go_simp; (try with_reducible rfl))
      (try simp only [Act.put, List.setIfInBounds_toArray, List.set_cons_zero, List.set_cons_succ])
      refine wpAnyS_done (by kernel_rfl) ?_
      have B29r := hid (BR.out.trans (B29.out.mono BR.out.size))
      have BB29 := hid (HB.out.trans (B29.out.mono HB.out.size))
      have Y29 := hid (YR.out.below B29.out YR.out.lt)
      clear hHeld HSF BDq B29 XR YR
      have y0 := Y29.out.cell 0; have yz := Y29.out.lt
      simp at y0
      cases nb with
      | true =>
        obtain ⟨AV, cV, rfl⟩ := OwnI.form OV.out |>.imp fun A h => h.imp fun c h => h.1
        as_aux_lemma =>
          go_upto_region 29 with fail
          refine wpIn_wide.1 (wpIn_region_S (n := 0) (fun _ => True) [] (by kernel_rfl) trivial (fun hHeld => ?_))
          refine wpAnyG_pure 0 (v := ?_) (fun _ => trivial) (by simp only [List.getElem?_toArray, List.getElem?_cons_succ, List.getElem?_cons_zero]; rfl) (by kernel_rfl) (fun _ _ _ _ _ h => h) ⟨(by rfl), (by intro c h; cases h), ?_⟩ hHeld ?_
          rotate_left
          focus (intro wS hSw; (try replace hSw := HSF.out wS hSw); (try dsimp only at hSw); go_simp; (try with_reducible rfl))
          (try simp only [Act.put, List.setIfInBounds_toArray, List.set_cons_zero, List.set_cons_succ])
          refine wpAnyG_pure 1 (v := ?_) (fun _ => trivial) (by simp only [List.getElem?_toArray, List.getElem?_cons_succ, List.getElem?_cons_zero]; rfl) (by kernel_rfl) (fun _ _ _ _ _ h => h) ⟨(by rfl), (by intro c h; cases h), ?_⟩ hHeld ?_
          rotate_left
          focus (intro wS hSw; (try replace hSw := HSF.out wS hSw); (try dsimp only at hSw); go_simp; (try with_reducible rfl))
          (try simp only [Act.put, List.setIfInBounds_toArray, List.set_cons_zero, List.set_cons_succ])
          refine wpAnyG_skip 2 (fun _ => trivial) (by simp only [List.getElem?_toArray, List.getElem?_cons_succ, List.getElem?_cons_zero]; rfl) (by kernel_rfl) (fun _ _ _ _ _ h => h) (by rfl) hHeld ?_
          (try simp only [Act.put, List.setIfInBounds_toArray, List.set_cons_zero, List.set_cons_succ])
          refine wpAnyG_skip 3 (fun _ => trivial) (by simp only [List.getElem?_toArray, List.getElem?_cons_succ, List.getElem?_cons_zero]; rfl) (by kernel_rfl) (fun _ _ _ _ _ h => h) (by rfl) hHeld ?_
          (try simp only [Act.put, List.setIfInBounds_toArray, List.set_cons_zero, List.set_cons_succ])
          refine wpAnyG_skip 4 (fun _ => trivial) (by simp only [List.getElem?_toArray, List.getElem?_cons_succ, List.getElem?_cons_zero]; rfl) (by kernel_rfl) (fun _ _ _ _ _ h => h) (by rfl) hHeld ?_
          (try simp only [Act.put, List.setIfInBounds_toArray, List.set_cons_zero, List.set_cons_succ])
          refine wpAnyG_skip 5 (fun _ => trivial) (by simp only [List.getElem?_toArray, List.getElem?_cons_succ, List.getElem?_cons_zero]; rfl) (by kernel_rfl) (fun _ _ _ _ _ h => h) (by rfl) hHeld ?_
          (try simp only [Act.put, List.setIfInBounds_toArray, List.set_cons_zero, List.set_cons_succ])
          refine wpAnyG_skip 6 (fun _ => trivial) (by simp only [List.getElem?_toArray, List.getElem?_cons_succ, List.getElem?_cons_zero]; rfl) (by kernel_rfl) (fun _ _ _ _ _ h => h) (by rfl) hHeld ?_
          (try simp only [Act.put, List.setIfInBounds_toArray, List.set_cons_zero, List.set_cons_succ])
          refine wpAnyG_skip 7 (fun _ => trivial) (by simp only [List.getElem?_toArray, List.getElem?_cons_succ, List.getElem?_cons_zero]; rfl) (by kernel_rfl) (fun _ _ _ _ _ h => h) (by rfl) hHeld ?_
          (try simp only [Act.put, List.setIfInBounds_toArray, List.set_cons_zero, List.set_cons_succ])
          refine wpAnyG_skip 8 (fun _ => trivial) (by simp only [List.getElem?_toArray, List.getElem?_cons_succ, List.getElem?_cons_zero]; rfl) (by kernel_rfl) (fun _ _ _ _ _ h => h) (by rfl) hHeld ?_
          (try simp only [Act.put, List.setIfInBounds_toArray, List.set_cons_zero, List.set_cons_succ])
          refine wpAnyG_skip 9 (fun _ => trivial) (by simp only [List.getElem?_toArray, List.getElem?_cons_succ, List.getElem?_cons_zero]; rfl) (by kernel_rfl) (fun _ _ _ _ _ h => h) (by rfl) hHeld ?_
          (try simp only [Act.put, List.setIfInBounds_toArray, List.set_cons_zero, List.set_cons_succ])
          refine wpAnyG_skip 10 (fun _ => trivial) (by simp only [List.getElem?_toArray, List.getElem?_cons_succ, List.getElem?_cons_zero]; rfl) (by kernel_rfl) (fun _ _ _ _ _ h => h) (by rfl) hHeld ?_
          (try simp only [Act.put, List.setIfInBounds_toArray, List.set_cons_zero, List.set_cons_succ])
          refine wpAnyG_skip 11 (fun _ => trivial) (by simp only [List.getElem?_toArray, List.getElem?_cons_succ, List.getElem?_cons_zero]; rfl) (by kernel_rfl) (fun _ _ _ _ _ h => h) (by rfl) hHeld ?_
          (try simp only [Act.put, List.setIfInBounds_toArray, List.set_cons_zero, List.set_cons_succ])
          refine wpAnyG_skip 12 (fun _ => trivial) (by simp only [List.getElem?_toArray, List.getElem?_cons_succ, List.getElem?_cons_zero]; rfl) (by kernel_rfl) (fun _ _ _ _ _ h => h) (by rfl) hHeld ?_
          (try simp only [Act.put, List.setIfInBounds_toArray, List.set_cons_zero, List.set_cons_succ])
          refine wpAnyG_skip 13 (fun _ => trivial) (by simp only [List.getElem?_toArray, List.getElem?_cons_succ, List.getElem?_cons_zero]; rfl) (by kernel_rfl) (fun _ _ _ _ _ h => h) (by rfl) hHeld ?_
          (try simp only [Act.put, List.setIfInBounds_toArray, List.set_cons_zero, List.set_cons_succ])
          refine wpAnyG_skip 14 (fun _ => trivial) (by simp only [List.getElem?_toArray, List.getElem?_cons_succ, List.getElem?_cons_zero]; rfl) (by kernel_rfl) (fun _ _ _ _ _ h => h) (by rfl) hHeld ?_
          (try simp only [Act.put, List.setIfInBounds_toArray, List.set_cons_zero, List.set_cons_succ])
          refine wpAnyG_skip 15 (fun _ => trivial) (by simp only [List.getElem?_toArray, List.getElem?_cons_succ, List.getElem?_cons_zero]; rfl) (by kernel_rfl) (fun _ _ _ _ _ h => h) (by rfl) hHeld ?_
          (try simp only [Act.put, List.setIfInBounds_toArray, List.set_cons_zero, List.set_cons_succ])
          refine wpAnyG_skip 16 (fun _ => trivial) (by simp only [List.getElem?_toArray, List.getElem?_cons_succ, List.getElem?_cons_zero]; rfl) (by kernel_rfl) (fun _ _ _ _ _ h => h) (by rfl) hHeld ?_
          (try simp only [Act.put, List.setIfInBounds_toArray, List.set_cons_zero, List.set_cons_succ])
          refine wpAnyG_skip 17 (fun _ => trivial) (by simp only [List.getElem?_toArray, List.getElem?_cons_succ, List.getElem?_cons_zero]; rfl) (by kernel_rfl) (fun _ _ _ _ _ h => h) (by rfl) hHeld ?_
          (try simp only [Act.put, List.setIfInBounds_toArray, List.set_cons_zero, List.set_cons_succ])
          refine wpAnyG_skip 18 (fun _ => trivial) (by simp only [List.getElem?_toArray, List.getElem?_cons_succ, List.getElem?_cons_zero]; rfl) (by kernel_rfl) (fun _ _ _ _ _ h => h) (by rfl) hHeld ?_
          (try simp only [Act.put, List.setIfInBounds_toArray, List.set_cons_zero, List.set_cons_succ])
          refine wpAnyG_skip 19 (fun _ => trivial) (by simp only [List.getElem?_toArray, List.getElem?_cons_succ, List.getElem?_cons_zero]; rfl) (by kernel_rfl) (fun _ _ _ _ _ h => h) (by rfl) hHeld ?_
          (try simp only [Act.put, List.setIfInBounds_toArray, List.set_cons_zero, List.set_cons_succ])
          refine wpAnyG_skip 20 (fun _ => trivial) (by simp only [List.getElem?_toArray, List.getElem?_cons_succ, List.getElem?_cons_zero]; rfl) (by kernel_rfl) (fun _ _ _ _ _ h => h) (by rfl) hHeld ?_
          (try simp only [Act.put, List.setIfInBounds_toArray, List.set_cons_zero, List.set_cons_succ])
          refine wpAnyG_pure 21 (v := ?_) (fun _ => trivial) (by simp only [List.getElem?_toArray, List.getElem?_cons_succ, List.getElem?_cons_zero]; rfl) (by kernel_rfl) (fun _ _ _ _ _ h => h) ⟨(by rfl), (by intro c h; cases h), ?_⟩ hHeld ?_
          rotate_left
          focus (intro wS hSw; (try replace hSw := HSF.out wS hSw); (try dsimp only at hSw); go_simp; (try with_reducible rfl))
          (try simp only [Act.put, List.setIfInBounds_toArray, List.set_cons_zero, List.set_cons_succ])
          refine wpAnyG_pure 22 (v := ?_) (fun _ => trivial) (by simp only [List.getElem?_toArray, List.getElem?_cons_succ, List.getElem?_cons_zero]; rfl) (by kernel_rfl) (fun _ _ _ _ _ h => h) ⟨(by rfl), (by intro c h; cases h), ?_⟩ hHeld ?_
          rotate_left
          focus (intro wS hSw; (try replace hSw := HSF.out wS hSw); (try dsimp only at hSw); go_simp; (try with_reducible rfl))
          (try simp only [Act.put, List.setIfInBounds_toArray, List.set_cons_zero, List.set_cons_succ])
          refine wpAnyS_done (by kernel_rfl) ?_
          clear hHeld
          go_wp2_with fail
          go_roundw
          case rel => exact ⟨q + 1, by omega, by go_num, ⟨true, rfl, HNB.out⟩, BB29.out.drew⟩
          case measure => simp [intOf]; omega
      | false =>
      cases hst : stepF g rows r0 act with
      | none =>
        rw [hst] at OV
        simp only at OV
        obtain ⟨AV, cV, hAV⟩ := OwnI.form OV.out |>.imp fun A h => h.imp fun c h => h.1
        simp only [List.length_cons, List.length_nil, Nat.zero_add] at hAV
        subst hAV
        clear HLq hst OV y0 yz
        as_aux_lemma =>
          go_upto_region 29 with fail
          refine wpIn_wide.1 (wpIn_region_S (n := 0) (fun _ => True) [] (by kernel_rfl) trivial (fun hHeld => ?_))
          refine wpAnyG_pure 0 (v := ?_) (fun _ => trivial) (by simp only [List.getElem?_toArray, List.getElem?_cons_succ, List.getElem?_cons_zero]; rfl) (by kernel_rfl) (fun _ _ _ _ _ h => h) ⟨(by rfl), (by intro c h; cases h), ?_⟩ hHeld ?_
          rotate_left
          focus (intro wS hSw; (try replace hSw := HSF.out wS hSw); (try dsimp only at hSw); go_simp; (try with_reducible rfl))
          (try simp only [Act.put, List.setIfInBounds_toArray, List.set_cons_zero, List.set_cons_succ])
          refine wpAnyG_pure 1 (v := ?_) (fun _ => trivial) (by simp only [List.getElem?_toArray, List.getElem?_cons_succ, List.getElem?_cons_zero]; rfl) (by kernel_rfl) (fun _ _ _ _ _ h => h) ⟨(by rfl), (by intro c h; cases h), ?_⟩ hHeld ?_
          rotate_left
          focus (intro wS hSw; (try replace hSw := HSF.out wS hSw); (try dsimp only at hSw); go_simp; (try with_reducible rfl))
          (try simp only [Act.put, List.setIfInBounds_toArray, List.set_cons_zero, List.set_cons_succ])
          refine wpAnyG_pure 2 (v := ?_) (fun _ => trivial) (by simp only [List.getElem?_toArray, List.getElem?_cons_succ, List.getElem?_cons_zero]; rfl) (by kernel_rfl) (fun _ _ _ _ _ h => h) ⟨(by rfl), (by intro c h; cases h), ?_⟩ hHeld ?_
          rotate_left
          focus (intro wS hSw; (try replace hSw := HSF.out wS hSw); (try dsimp only at hSw); go_simp; (try with_reducible rfl))
          (try simp only [Act.put, List.setIfInBounds_toArray, List.set_cons_zero, List.set_cons_succ])
          refine wpAnyG_pure 3 (v := ?_) (fun _ => trivial) (by simp only [List.getElem?_toArray, List.getElem?_cons_succ, List.getElem?_cons_zero]; rfl) (by kernel_rfl) (fun _ _ _ _ _ h => h) ⟨(by rfl), (by intro c h; cases h), ?_⟩ hHeld ?_
          rotate_left
          focus (intro wS hSw; (try replace hSw := HSF.out wS hSw); (try dsimp only at hSw); go_simp; (try with_reducible rfl))
          (try simp only [Act.put, List.setIfInBounds_toArray, List.set_cons_zero, List.set_cons_succ])
          refine wpAnyG_pure 4 (v := ?_) (fun _ => trivial) (by simp only [List.getElem?_toArray, List.getElem?_cons_succ, List.getElem?_cons_zero]; rfl) (by kernel_rfl) (fun _ _ _ _ _ h => h) ⟨(by rfl), (by intro c h; cases h), ?_⟩ hHeld ?_
          rotate_left
          focus (intro wS hSw; (try replace hSw := HSF.out wS hSw); (try dsimp only at hSw); go_simp; (try with_reducible rfl))
          (try simp only [Act.put, List.setIfInBounds_toArray, List.set_cons_zero, List.set_cons_succ])
          refine wpAnyG_pure 5 (v := ?_) (fun _ => trivial) (by simp only [List.getElem?_toArray, List.getElem?_cons_succ, List.getElem?_cons_zero]; rfl) (by kernel_rfl) (fun _ _ _ _ _ h => h) ⟨(by rfl), (by intro c h; cases h), ?_⟩ hHeld ?_
          rotate_left
          focus (intro wS hSw; (try replace hSw := HSF.out wS hSw); (try dsimp only at hSw); go_simp; (try with_reducible rfl))
          (try simp only [Act.put, List.setIfInBounds_toArray, List.set_cons_zero, List.set_cons_succ])
          refine wpAnyG_skip 6 (fun _ => trivial) (by simp only [List.getElem?_toArray, List.getElem?_cons_succ, List.getElem?_cons_zero]; rfl) (by kernel_rfl) (fun _ _ _ _ _ h => h) (by rfl) hHeld ?_
          (try simp only [Act.put, List.setIfInBounds_toArray, List.set_cons_zero, List.set_cons_succ])
          refine wpAnyG_skip 7 (fun _ => trivial) (by simp only [List.getElem?_toArray, List.getElem?_cons_succ, List.getElem?_cons_zero]; rfl) (by kernel_rfl) (fun _ _ _ _ _ h => h) (by rfl) hHeld ?_
          (try simp only [Act.put, List.setIfInBounds_toArray, List.set_cons_zero, List.set_cons_succ])
          refine wpAnyG_skip 8 (fun _ => trivial) (by simp only [List.getElem?_toArray, List.getElem?_cons_succ, List.getElem?_cons_zero]; rfl) (by kernel_rfl) (fun _ _ _ _ _ h => h) (by rfl) hHeld ?_
          (try simp only [Act.put, List.setIfInBounds_toArray, List.set_cons_zero, List.set_cons_succ])
          refine wpAnyG_skip 9 (fun _ => trivial) (by simp only [List.getElem?_toArray, List.getElem?_cons_succ, List.getElem?_cons_zero]; rfl) (by kernel_rfl) (fun _ _ _ _ _ h => h) (by rfl) hHeld ?_
          (try simp only [Act.put, List.setIfInBounds_toArray, List.set_cons_zero, List.set_cons_succ])
          refine wpAnyG_skip 10 (fun _ => trivial) (by simp only [List.getElem?_toArray, List.getElem?_cons_succ, List.getElem?_cons_zero]; rfl) (by kernel_rfl) (fun _ _ _ _ _ h => h) (by rfl) hHeld ?_
          (try simp only [Act.put, List.setIfInBounds_toArray, List.set_cons_zero, List.set_cons_succ])
          refine wpAnyG_skip 11 (fun _ => trivial) (by simp only [List.getElem?_toArray, List.getElem?_cons_succ, List.getElem?_cons_zero]; rfl) (by kernel_rfl) (fun _ _ _ _ _ h => h) (by rfl) hHeld ?_
          (try simp only [Act.put, List.setIfInBounds_toArray, List.set_cons_zero, List.set_cons_succ])
          refine wpAnyG_skip 12 (fun _ => trivial) (by simp only [List.getElem?_toArray, List.getElem?_cons_succ, List.getElem?_cons_zero]; rfl) (by kernel_rfl) (fun _ _ _ _ _ h => h) (by rfl) hHeld ?_
          (try simp only [Act.put, List.setIfInBounds_toArray, List.set_cons_zero, List.set_cons_succ])
          refine wpAnyG_skip 13 (fun _ => trivial) (by simp only [List.getElem?_toArray, List.getElem?_cons_succ, List.getElem?_cons_zero]; rfl) (by kernel_rfl) (fun _ _ _ _ _ h => h) (by rfl) hHeld ?_
          (try simp only [Act.put, List.setIfInBounds_toArray, List.set_cons_zero, List.set_cons_succ])
          refine wpAnyG_skip 14 (fun _ => trivial) (by simp only [List.getElem?_toArray, List.getElem?_cons_succ, List.getElem?_cons_zero]; rfl) (by kernel_rfl) (fun _ _ _ _ _ h => h) (by rfl) hHeld ?_
          (try simp only [Act.put, List.setIfInBounds_toArray, List.set_cons_zero, List.set_cons_succ])
          refine wpAnyG_pure 15 (v := ?_) (fun _ => trivial) (by simp only [List.getElem?_toArray, List.getElem?_cons_succ, List.getElem?_cons_zero]; rfl) (by kernel_rfl) (fun _ _ _ _ _ h => h) ⟨(by rfl), (by intro c h; cases h), ?_⟩ hHeld ?_
          rotate_left
          focus (intro wS hSw; (try replace hSw := HSF.out wS hSw); (try dsimp only at hSw); go_simp; (try with_reducible rfl))
          (try simp only [Act.put, List.setIfInBounds_toArray, List.set_cons_zero, List.set_cons_succ])
          refine wpAnyG_pure 16 (v := ?_) (fun _ => trivial) (by simp only [List.getElem?_toArray, List.getElem?_cons_succ, List.getElem?_cons_zero]; rfl) (by kernel_rfl) (fun _ _ _ _ _ h => h) ⟨(by rfl), (by intro c h; cases h), ?_⟩ hHeld ?_
          rotate_left
          focus (intro wS hSw; (try replace hSw := HSF.out wS hSw); (try dsimp only at hSw); go_simp; (try with_reducible rfl))
          (try simp only [Act.put, List.setIfInBounds_toArray, List.set_cons_zero, List.set_cons_succ])
          refine wpAnyG_skip 17 (fun _ => trivial) (by simp only [List.getElem?_toArray, List.getElem?_cons_succ, List.getElem?_cons_zero]; rfl) (by kernel_rfl) (fun _ _ _ _ _ h => h) (by rfl) hHeld ?_
          (try simp only [Act.put, List.setIfInBounds_toArray, List.set_cons_zero, List.set_cons_succ])
          refine wpAnyG_skip 18 (fun _ => trivial) (by simp only [List.getElem?_toArray, List.getElem?_cons_succ, List.getElem?_cons_zero]; rfl) (by kernel_rfl) (fun _ _ _ _ _ h => h) (by rfl) hHeld ?_
          (try simp only [Act.put, List.setIfInBounds_toArray, List.set_cons_zero, List.set_cons_succ])
          refine wpAnyG_skip 19 (fun _ => trivial) (by simp only [List.getElem?_toArray, List.getElem?_cons_succ, List.getElem?_cons_zero]; rfl) (by kernel_rfl) (fun _ _ _ _ _ h => h) (by rfl) hHeld ?_
          (try simp only [Act.put, List.setIfInBounds_toArray, List.set_cons_zero, List.set_cons_succ])
          refine wpAnyG_pure 20 (v := ?_) (fun _ => trivial) (by simp only [List.getElem?_toArray, List.getElem?_cons_succ, List.getElem?_cons_zero]; rfl) (by kernel_rfl) (fun _ _ _ _ _ h => h) ⟨(by rfl), (by intro c h; cases h), ?_⟩ hHeld ?_
          rotate_left
          focus (intro wS hSw; (try replace hSw := HSF.out wS hSw); (try dsimp only at hSw); go_simp; (try with_reducible rfl))
          (try simp only [Act.put, List.setIfInBounds_toArray, List.set_cons_zero, List.set_cons_succ])
          refine wpAnyG_pure 21 (v := ?_) (fun _ => trivial) (by simp only [List.getElem?_toArray, List.getElem?_cons_succ, List.getElem?_cons_zero]; rfl) (by kernel_rfl) (fun _ _ _ _ _ h => h) ⟨(by rfl), (by intro c h; cases h), ?_⟩ hHeld ?_
          rotate_left
          focus (intro wS hSw; (try replace hSw := HSF.out wS hSw); (try dsimp only at hSw); go_simp; (try with_reducible rfl))
          (try simp only [Act.put, List.setIfInBounds_toArray, List.set_cons_zero, List.set_cons_succ])
          refine wpAnyG_pure 22 (v := ?_) (fun _ => trivial) (by simp only [List.getElem?_toArray, List.getElem?_cons_succ, List.getElem?_cons_zero]; rfl) (by kernel_rfl) (fun _ _ _ _ _ h => h) ⟨(by rfl), (by intro c h; cases h), ?_⟩ hHeld ?_
          rotate_left
          focus (intro wS hSw; (try replace hSw := HSF.out wS hSw); (try dsimp only at hSw); go_simp; (try with_reducible rfl))
          (try simp only [Act.put, List.setIfInBounds_toArray, List.set_cons_zero, List.set_cons_succ])
          refine wpAnyS_done (by kernel_rfl) ?_
          clear hHeld
          go_wp2_with fail
          go_roundw
          case rel => exact ⟨q + 1, by omega, by go_num, ⟨false, rfl, fun h => by cases h⟩, BB29.out.drew⟩
          case measure => simp [intOf]; omega
      | some t =>
        have HST := hid hst
        rw [hst] at OV
        simp only at OV
        obtain ⟨AV, cV, hAV, hAF⟩ := OwnI.form OV.out
        obtain ⟨gV, rfl, -, hgV, hcV, -⟩ := hAF (by simp)
        have hAV2 : vF = .slice (some ⟨gV, 0, none⟩) 2 cV := hAV
        clear hAV
        subst hAV2
        have hw21 : IntKind.i64.wrap (2 - 1) = 1 := IntWalk.i64_in _ (by omega)
        have hw11 : IntKind.i64.wrap 1 = 1 := IntWalk.i64_in _ (by omega)
        have hc1 := hcV 1 (by simp)
        simp only [List.getElem_cons_succ, List.getElem_cons_zero] at hc1
        clear hst OV hAF hcV
        by_cases htq : t = q0
        case neg =>
          have ht1 : (t == q0) = false := by simpa using htq
          have ht2 : decide (t = q0) = false := by simpa using htq
          clear HLq HST
          as_aux_lemma =>
            go_upto_region 29 with fail
            refine wpIn_wide.1 (wpIn_region_S (n := 0) (fun wq => wq.cell? ⟨gV, 1, none⟩ = some (.int .i64 t) ∧ wq.cell? ⟨yb, 0, none⟩ = some (.int .i64 q0)) [] (by kernel_rfl) ⟨hc1, y0⟩ (fun hHeld => ?_))
            refine wpAnyG_pure 0 (v := ?_) (fun _ => trivial) (by simp only [List.getElem?_toArray, List.getElem?_cons_succ, List.getElem?_cons_zero]; rfl) (by kernel_rfl) (fun _ _ _ _ _ h => h) ⟨(by rfl), (by intro c h; cases h), ?_⟩ hHeld ?_
            rotate_left
            focus (intro wS hSw; (try replace hSw := HSF.out wS hSw); (try dsimp only at hSw); go_simp; (try with_reducible rfl))
            (try simp only [Act.put, List.setIfInBounds_toArray, List.set_cons_zero, List.set_cons_succ])
            refine wpAnyG_pure 1 (v := ?_) (fun _ => trivial) (by simp only [List.getElem?_toArray, List.getElem?_cons_succ, List.getElem?_cons_zero]; rfl) (by kernel_rfl) (fun _ _ _ _ _ h => h) ⟨(by rfl), (by intro c h; cases h), ?_⟩ hHeld ?_
            rotate_left
            focus (intro wS hSw; (try replace hSw := HSF.out wS hSw); (try dsimp only at hSw); go_simp; (try with_reducible rfl))
            (try simp only [Act.put, List.setIfInBounds_toArray, List.set_cons_zero, List.set_cons_succ])
            refine wpAnyG_pure 2 (v := ?_) (fun _ => trivial) (by simp only [List.getElem?_toArray, List.getElem?_cons_succ, List.getElem?_cons_zero]; rfl) (by kernel_rfl) (fun _ _ _ _ _ h => h) ⟨(by rfl), (by intro c h; cases h), ?_⟩ hHeld ?_
            rotate_left
            focus (intro wS hSw; (try replace hSw := HSF.out wS hSw); (try dsimp only at hSw); go_simp; (try with_reducible rfl))
            (try simp only [Act.put, List.setIfInBounds_toArray, List.set_cons_zero, List.set_cons_succ])
            refine wpAnyG_pure 3 (v := ?_) (fun _ => trivial) (by simp only [List.getElem?_toArray, List.getElem?_cons_succ, List.getElem?_cons_zero]; rfl) (by kernel_rfl) (fun _ _ _ _ _ h => h) ⟨(by rfl), (by intro c h; cases h), ?_⟩ hHeld ?_
            rotate_left
            focus (intro wS hSw; (try replace hSw := HSF.out wS hSw); (try dsimp only at hSw); go_simp; (try with_reducible rfl))
            (try simp only [Act.put, List.setIfInBounds_toArray, List.set_cons_zero, List.set_cons_succ])
            refine wpAnyG_pure 4 (v := ?_) (fun _ => trivial) (by simp only [List.getElem?_toArray, List.getElem?_cons_succ, List.getElem?_cons_zero]; rfl) (by kernel_rfl) (fun _ _ _ _ _ h => h) ⟨(by rfl), (by intro c h; cases h), ?_⟩ hHeld ?_
            rotate_left
            focus (intro wS hSw; (try replace hSw := HSF.out wS hSw); (try dsimp only at hSw); go_simp; (try with_reducible rfl))
            (try simp only [Act.put, List.setIfInBounds_toArray, List.set_cons_zero, List.set_cons_succ])
            refine wpAnyG_pure 5 (v := ?_) (fun _ => trivial) (by simp only [List.getElem?_toArray, List.getElem?_cons_succ, List.getElem?_cons_zero]; rfl) (by kernel_rfl) (fun _ _ _ _ _ h => h) ⟨(by rfl), (by intro c h; cases h), ?_⟩ hHeld ?_
            rotate_left
            focus (intro wS hSw; (try replace hSw := HSF.out wS hSw); (try dsimp only at hSw); go_simp; (try with_reducible rfl))
            (try simp only [Act.put, List.setIfInBounds_toArray, List.set_cons_zero, List.set_cons_succ])
            refine wpAnyG_pure 6 (v := ?_) (fun _ => trivial) (by simp only [List.getElem?_toArray, List.getElem?_cons_succ, List.getElem?_cons_zero]; rfl) (by kernel_rfl) (fun _ _ _ _ _ h => h) ⟨(by rfl), (by intro c h; cases h), ?_⟩ hHeld ?_
            rotate_left
            focus (intro wS hSw; (try replace hSw := HSF.out wS hSw); (try dsimp only at hSw); go_simp; (try with_reducible rfl))
            (try simp only [Act.put, List.setIfInBounds_toArray, List.set_cons_zero, List.set_cons_succ])
            refine wpAnyG_pure 7 (v := ?_) (fun _ => trivial) (by simp only [List.getElem?_toArray, List.getElem?_cons_succ, List.getElem?_cons_zero]; rfl) (by kernel_rfl) (fun _ _ _ _ _ h => h) ⟨(by rfl), (by intro c h; cases h), ?_⟩ hHeld ?_
            rotate_left
            focus (intro wS hSw; (try replace hSw := HSF.out wS hSw); (try dsimp only at hSw); go_simp; (try with_reducible rfl))
            (try simp only [Act.put, List.setIfInBounds_toArray, List.set_cons_zero, List.set_cons_succ])
            refine wpAnyG_pure 8 (v := ?_) (fun _ => trivial) (by simp only [List.getElem?_toArray, List.getElem?_cons_succ, List.getElem?_cons_zero]; rfl) (by kernel_rfl) (fun _ _ _ _ _ h => h) ⟨(by rfl), (by intro c h; cases h), ?_⟩ hHeld ?_
            rotate_left
            focus (intro wS hSw; (try replace hSw := HSF.out wS hSw); (try dsimp only at hSw); go_simp; (try with_reducible rfl))
            (try simp only [Act.put, List.setIfInBounds_toArray, List.set_cons_zero, List.set_cons_succ])
            refine wpAnyG_pure 9 (v := ?_) (fun _ => trivial) (by simp only [List.getElem?_toArray, List.getElem?_cons_succ, List.getElem?_cons_zero]; rfl) (by kernel_rfl) (fun _ _ _ _ _ h => h) ⟨(by rfl), (by intro c h; cases h), ?_⟩ hHeld ?_
            rotate_left
            focus (intro wS hSw; (try replace hSw := HSF.out wS hSw); (try dsimp only at hSw); go_simp; (try with_reducible rfl))
            (try simp only [Act.put, List.setIfInBounds_toArray, List.set_cons_zero, List.set_cons_succ])
            refine wpAnyG_pure 10 (v := ?_) (fun _ => trivial) (by simp only [List.getElem?_toArray, List.getElem?_cons_succ, List.getElem?_cons_zero]; rfl) (by kernel_rfl) (fun _ _ _ _ _ h => h) ⟨(by rfl), (by intro c h; cases h), ?_⟩ hHeld ?_
            rotate_left
            focus (intro wS hSw; (try replace hSw := HSF.out wS hSw); (try dsimp only at hSw); go_simp; (try with_reducible rfl))
            (try simp only [Act.put, List.setIfInBounds_toArray, List.set_cons_zero, List.set_cons_succ])
            refine wpAnyG_take 11 (v := ?_) (fun _ => trivial) (by simp only [List.getElem?_toArray, List.getElem?_cons_succ, List.getElem?_cons_zero]; rfl) (by kernel_rfl) (fun _ _ _ _ _ h => h) ⟨(by rfl), (by intro c h; cases h), ?_⟩ hHeld ?_
            rotate_left
            focus (intro wS hSw; (try replace hSw := HSF.out wS hSw); (try dsimp only at hSw); go_simp; (try with_reducible rfl))
            (try simp only [Act.put, List.setIfInBounds_toArray, List.set_cons_zero, List.set_cons_succ])
            refine wpAnyG_pure 12 (v := ?_) (fun _ => trivial) (by simp only [List.getElem?_toArray, List.getElem?_cons_succ, List.getElem?_cons_zero]; rfl) (by kernel_rfl) (fun _ _ _ _ _ h => h) ⟨(by rfl), (by intro c h; cases h), ?_⟩ hHeld ?_
            rotate_left
            focus (intro wS hSw; (try replace hSw := HSF.out wS hSw); (try dsimp only at hSw); go_simp; (try with_reducible rfl))
            (try simp only [Act.put, List.setIfInBounds_toArray, List.set_cons_zero, List.set_cons_succ])
            refine wpAnyG_take 13 (v := ?_) (fun _ => trivial) (by simp only [List.getElem?_toArray, List.getElem?_cons_succ, List.getElem?_cons_zero]; rfl) (by kernel_rfl) (fun _ _ _ _ _ h => h) ⟨(by rfl), (by intro c h; cases h), ?_⟩ hHeld ?_
            rotate_left
            focus (intro wS hSw; (try replace hSw := HSF.out wS hSw); (try dsimp only at hSw); go_simp; (try with_reducible rfl))
            (try simp only [Act.put, List.setIfInBounds_toArray, List.set_cons_zero, List.set_cons_succ])
            refine wpAnyG_pure 14 (v := ?_) (fun _ => trivial) (by simp only [List.getElem?_toArray, List.getElem?_cons_succ, List.getElem?_cons_zero]; rfl) (by kernel_rfl) (fun _ _ _ _ _ h => h) ⟨(by rfl), (by intro c h; cases h), ?_⟩ hHeld ?_
            rotate_left
            focus (intro wS hSw; (try replace hSw := HSF.out wS hSw); (try dsimp only at hSw); go_simp; (try with_reducible rfl))
            (try simp only [Act.put, List.setIfInBounds_toArray, List.set_cons_zero, List.set_cons_succ])
            refine wpAnyG_pure 15 (v := ?_) (fun _ => trivial) (by simp only [List.getElem?_toArray, List.getElem?_cons_succ, List.getElem?_cons_zero]; rfl) (by kernel_rfl) (fun _ _ _ _ _ h => h) ⟨(by rfl), (by intro c h; cases h), ?_⟩ hHeld ?_
            rotate_left
            focus (intro wS hSw; (try replace hSw := HSF.out wS hSw); (try dsimp only at hSw); go_simp; (try with_reducible rfl))
            (try simp only [Act.put, List.setIfInBounds_toArray, List.set_cons_zero, List.set_cons_succ])
            refine wpAnyG_pure 16 (v := ?_) (fun _ => trivial) (by simp only [List.getElem?_toArray, List.getElem?_cons_succ, List.getElem?_cons_zero]; rfl) (by kernel_rfl) (fun _ _ _ _ _ h => h) ⟨(by rfl), (by intro c h; cases h), ?_⟩ hHeld ?_
            rotate_left
            focus (intro wS hSw; (try replace hSw := HSF.out wS hSw); (try dsimp only at hSw); go_simp; (try with_reducible rfl))
            (try simp only [Act.put, List.setIfInBounds_toArray, List.set_cons_zero, List.set_cons_succ])
            refine wpAnyG_skip 17 (fun _ => trivial) (by simp only [List.getElem?_toArray, List.getElem?_cons_succ, List.getElem?_cons_zero]; rfl) (by kernel_rfl) (fun _ _ _ _ _ h => h) (by rfl) hHeld ?_
            (try simp only [Act.put, List.setIfInBounds_toArray, List.set_cons_zero, List.set_cons_succ])
            refine wpAnyG_skip 18 (fun _ => trivial) (by simp only [List.getElem?_toArray, List.getElem?_cons_succ, List.getElem?_cons_zero]; rfl) (by kernel_rfl) (fun _ _ _ _ _ h => h) (by rfl) hHeld ?_
            (try simp only [Act.put, List.setIfInBounds_toArray, List.set_cons_zero, List.set_cons_succ])
            refine wpAnyG_skip 19 (fun _ => trivial) (by simp only [List.getElem?_toArray, List.getElem?_cons_succ, List.getElem?_cons_zero]; rfl) (by kernel_rfl) (fun _ _ _ _ _ h => h) (by rfl) hHeld ?_
            (try simp only [Act.put, List.setIfInBounds_toArray, List.set_cons_zero, List.set_cons_succ])
            refine wpAnyG_pure 20 (v := ?_) (fun _ => trivial) (by simp only [List.getElem?_toArray, List.getElem?_cons_succ, List.getElem?_cons_zero]; rfl) (by kernel_rfl) (fun _ _ _ _ _ h => h) ⟨(by rfl), (by intro c h; cases h), ?_⟩ hHeld ?_
            rotate_left
            focus (intro wS hSw; (try replace hSw := HSF.out wS hSw); (try dsimp only at hSw); go_simp; (try with_reducible rfl))
            (try simp only [Act.put, List.setIfInBounds_toArray, List.set_cons_zero, List.set_cons_succ])
            refine wpAnyG_pure 21 (v := ?_) (fun _ => trivial) (by simp only [List.getElem?_toArray, List.getElem?_cons_succ, List.getElem?_cons_zero]; rfl) (by kernel_rfl) (fun _ _ _ _ _ h => h) ⟨(by rfl), (by intro c h; cases h), ?_⟩ hHeld ?_
            rotate_left
            focus (intro wS hSw; (try replace hSw := HSF.out wS hSw); (try dsimp only at hSw); go_simp; (try with_reducible rfl))
            (try simp only [Act.put, List.setIfInBounds_toArray, List.set_cons_zero, List.set_cons_succ])
            refine wpAnyG_pure 22 (v := ?_) (fun _ => trivial) (by simp only [List.getElem?_toArray, List.getElem?_cons_succ, List.getElem?_cons_zero]; rfl) (by kernel_rfl) (fun _ _ _ _ _ h => h) ⟨(by rfl), (by intro c h; cases h), ?_⟩ hHeld ?_
            rotate_left
            focus (intro wS hSw; (try replace hSw := HSF.out wS hSw); (try dsimp only at hSw); go_simp; (try with_reducible rfl))
            (try simp only [Act.put, List.setIfInBounds_toArray, List.set_cons_zero, List.set_cons_succ])
            refine wpAnyS_done (by kernel_rfl) ?_
            clear hHeld
            go_wp2_with fail
            go_roundw
            case rel => exact ⟨q + 1, by omega, by go_num, ⟨false, rfl, fun h => by cases h⟩, BB29.out.drew⟩
            case measure => simp [intOf]; omega
        subst htq
        by_cases hqi : q = i
        · subst hqi
          clear HLq HST
          as_aux_lemma =>
            go_upto_region 29 with fail
            refine wpIn_wide.1 (wpIn_region_S (n := 0) (fun wq => wq.cell? ⟨gV, 1, none⟩ = some (.int .i64 t) ∧ wq.cell? ⟨yb, 0, none⟩ = some (.int .i64 t)) [] (by kernel_rfl) ⟨hc1, y0⟩ (fun hHeld => ?_))
            refine wpAnyG_pure 0 (v := ?_) (fun _ => trivial) (by simp only [List.getElem?_toArray, List.getElem?_cons_succ, List.getElem?_cons_zero]; rfl) (by kernel_rfl) (fun _ _ _ _ _ h => h) ⟨(by rfl), (by intro c h; cases h), ?_⟩ hHeld ?_
            rotate_left
            focus (intro wS hSw; (try replace hSw := HSF.out wS hSw); (try dsimp only at hSw); go_simp; (try with_reducible rfl))
            (try simp only [Act.put, List.setIfInBounds_toArray, List.set_cons_zero, List.set_cons_succ])
            refine wpAnyG_pure 1 (v := ?_) (fun _ => trivial) (by simp only [List.getElem?_toArray, List.getElem?_cons_succ, List.getElem?_cons_zero]; rfl) (by kernel_rfl) (fun _ _ _ _ _ h => h) ⟨(by rfl), (by intro c h; cases h), ?_⟩ hHeld ?_
            rotate_left
            focus (intro wS hSw; (try replace hSw := HSF.out wS hSw); (try dsimp only at hSw); go_simp; (try with_reducible rfl))
            (try simp only [Act.put, List.setIfInBounds_toArray, List.set_cons_zero, List.set_cons_succ])
            refine wpAnyG_pure 2 (v := ?_) (fun _ => trivial) (by simp only [List.getElem?_toArray, List.getElem?_cons_succ, List.getElem?_cons_zero]; rfl) (by kernel_rfl) (fun _ _ _ _ _ h => h) ⟨(by rfl), (by intro c h; cases h), ?_⟩ hHeld ?_
            rotate_left
            focus (intro wS hSw; (try replace hSw := HSF.out wS hSw); (try dsimp only at hSw); go_simp; (try with_reducible rfl))
            (try simp only [Act.put, List.setIfInBounds_toArray, List.set_cons_zero, List.set_cons_succ])
            refine wpAnyG_pure 3 (v := ?_) (fun _ => trivial) (by simp only [List.getElem?_toArray, List.getElem?_cons_succ, List.getElem?_cons_zero]; rfl) (by kernel_rfl) (fun _ _ _ _ _ h => h) ⟨(by rfl), (by intro c h; cases h), ?_⟩ hHeld ?_
            rotate_left
            focus (intro wS hSw; (try replace hSw := HSF.out wS hSw); (try dsimp only at hSw); go_simp; (try with_reducible rfl))
            (try simp only [Act.put, List.setIfInBounds_toArray, List.set_cons_zero, List.set_cons_succ])
            refine wpAnyG_pure 4 (v := ?_) (fun _ => trivial) (by simp only [List.getElem?_toArray, List.getElem?_cons_succ, List.getElem?_cons_zero]; rfl) (by kernel_rfl) (fun _ _ _ _ _ h => h) ⟨(by rfl), (by intro c h; cases h), ?_⟩ hHeld ?_
            rotate_left
            focus (intro wS hSw; (try replace hSw := HSF.out wS hSw); (try dsimp only at hSw); go_simp; (try with_reducible rfl))
            (try simp only [Act.put, List.setIfInBounds_toArray, List.set_cons_zero, List.set_cons_succ])
            refine wpAnyG_pure 5 (v := ?_) (fun _ => trivial) (by simp only [List.getElem?_toArray, List.getElem?_cons_succ, List.getElem?_cons_zero]; rfl) (by kernel_rfl) (fun _ _ _ _ _ h => h) ⟨(by rfl), (by intro c h; cases h), ?_⟩ hHeld ?_
            rotate_left
            focus (intro wS hSw; (try replace hSw := HSF.out wS hSw); (try dsimp only at hSw); go_simp; (try with_reducible rfl))
            (try simp only [Act.put, List.setIfInBounds_toArray, List.set_cons_zero, List.set_cons_succ])
            refine wpAnyG_pure 6 (v := ?_) (fun _ => trivial) (by simp only [List.getElem?_toArray, List.getElem?_cons_succ, List.getElem?_cons_zero]; rfl) (by kernel_rfl) (fun _ _ _ _ _ h => h) ⟨(by rfl), (by intro c h; cases h), ?_⟩ hHeld ?_
            rotate_left
            focus (intro wS hSw; (try replace hSw := HSF.out wS hSw); (try dsimp only at hSw); go_simp; (try with_reducible rfl))
            (try simp only [Act.put, List.setIfInBounds_toArray, List.set_cons_zero, List.set_cons_succ])
            refine wpAnyG_pure 7 (v := ?_) (fun _ => trivial) (by simp only [List.getElem?_toArray, List.getElem?_cons_succ, List.getElem?_cons_zero]; rfl) (by kernel_rfl) (fun _ _ _ _ _ h => h) ⟨(by rfl), (by intro c h; cases h), ?_⟩ hHeld ?_
            rotate_left
            focus (intro wS hSw; (try replace hSw := HSF.out wS hSw); (try dsimp only at hSw); go_simp; (try with_reducible rfl))
            (try simp only [Act.put, List.setIfInBounds_toArray, List.set_cons_zero, List.set_cons_succ])
            refine wpAnyG_pure 8 (v := ?_) (fun _ => trivial) (by simp only [List.getElem?_toArray, List.getElem?_cons_succ, List.getElem?_cons_zero]; rfl) (by kernel_rfl) (fun _ _ _ _ _ h => h) ⟨(by rfl), (by intro c h; cases h), ?_⟩ hHeld ?_
            rotate_left
            focus (intro wS hSw; (try replace hSw := HSF.out wS hSw); (try dsimp only at hSw); go_simp; (try with_reducible rfl))
            (try simp only [Act.put, List.setIfInBounds_toArray, List.set_cons_zero, List.set_cons_succ])
            refine wpAnyG_pure 9 (v := ?_) (fun _ => trivial) (by simp only [List.getElem?_toArray, List.getElem?_cons_succ, List.getElem?_cons_zero]; rfl) (by kernel_rfl) (fun _ _ _ _ _ h => h) ⟨(by rfl), (by intro c h; cases h), ?_⟩ hHeld ?_
            rotate_left
            focus (intro wS hSw; (try replace hSw := HSF.out wS hSw); (try dsimp only at hSw); go_simp; (try with_reducible rfl))
            (try simp only [Act.put, List.setIfInBounds_toArray, List.set_cons_zero, List.set_cons_succ])
            refine wpAnyG_pure 10 (v := ?_) (fun _ => trivial) (by simp only [List.getElem?_toArray, List.getElem?_cons_succ, List.getElem?_cons_zero]; rfl) (by kernel_rfl) (fun _ _ _ _ _ h => h) ⟨(by rfl), (by intro c h; cases h), ?_⟩ hHeld ?_
            rotate_left
            focus (intro wS hSw; (try replace hSw := HSF.out wS hSw); (try dsimp only at hSw); go_simp; (try with_reducible rfl))
            (try simp only [Act.put, List.setIfInBounds_toArray, List.set_cons_zero, List.set_cons_succ])
            refine wpAnyG_take 11 (v := ?_) (fun _ => trivial) (by simp only [List.getElem?_toArray, List.getElem?_cons_succ, List.getElem?_cons_zero]; rfl) (by kernel_rfl) (fun _ _ _ _ _ h => h) ⟨(by rfl), (by intro c h; cases h), ?_⟩ hHeld ?_
            rotate_left
            focus (intro wS hSw; (try replace hSw := HSF.out wS hSw); (try dsimp only at hSw); go_simp; (try with_reducible rfl))
            (try simp only [Act.put, List.setIfInBounds_toArray, List.set_cons_zero, List.set_cons_succ])
            refine wpAnyG_pure 12 (v := ?_) (fun _ => trivial) (by simp only [List.getElem?_toArray, List.getElem?_cons_succ, List.getElem?_cons_zero]; rfl) (by kernel_rfl) (fun _ _ _ _ _ h => h) ⟨(by rfl), (by intro c h; cases h), ?_⟩ hHeld ?_
            rotate_left
            focus (intro wS hSw; (try replace hSw := HSF.out wS hSw); (try dsimp only at hSw); go_simp; (try with_reducible rfl))
            (try simp only [Act.put, List.setIfInBounds_toArray, List.set_cons_zero, List.set_cons_succ])
            refine wpAnyG_take 13 (v := ?_) (fun _ => trivial) (by simp only [List.getElem?_toArray, List.getElem?_cons_succ, List.getElem?_cons_zero]; rfl) (by kernel_rfl) (fun _ _ _ _ _ h => h) ⟨(by rfl), (by intro c h; cases h), ?_⟩ hHeld ?_
            rotate_left
            focus (intro wS hSw; (try replace hSw := HSF.out wS hSw); (try dsimp only at hSw); go_simp; (try with_reducible rfl))
            (try simp only [Act.put, List.setIfInBounds_toArray, List.set_cons_zero, List.set_cons_succ])
            refine wpAnyG_pure 14 (v := ?_) (fun _ => trivial) (by simp only [List.getElem?_toArray, List.getElem?_cons_succ, List.getElem?_cons_zero]; rfl) (by kernel_rfl) (fun _ _ _ _ _ h => h) ⟨(by rfl), (by intro c h; cases h), ?_⟩ hHeld ?_
            rotate_left
            focus (intro wS hSw; (try replace hSw := HSF.out wS hSw); (try dsimp only at hSw); go_simp; (try with_reducible rfl))
            (try simp only [Act.put, List.setIfInBounds_toArray, List.set_cons_zero, List.set_cons_succ])
            refine wpAnyG_pure 15 (v := ?_) (fun _ => trivial) (by simp only [List.getElem?_toArray, List.getElem?_cons_succ, List.getElem?_cons_zero]; rfl) (by kernel_rfl) (fun _ _ _ _ _ h => h) ⟨(by rfl), (by intro c h; cases h), ?_⟩ hHeld ?_
            rotate_left
            focus (intro wS hSw; (try replace hSw := HSF.out wS hSw); (try dsimp only at hSw); go_simp; (try with_reducible rfl))
            (try simp only [Act.put, List.setIfInBounds_toArray, List.set_cons_zero, List.set_cons_succ])
            refine wpAnyG_pure 16 (v := ?_) (fun _ => trivial) (by simp only [List.getElem?_toArray, List.getElem?_cons_succ, List.getElem?_cons_zero]; rfl) (by kernel_rfl) (fun _ _ _ _ _ h => h) ⟨(by rfl), (by intro c h; cases h), ?_⟩ hHeld ?_
            rotate_left
            focus (intro wS hSw; (try replace hSw := HSF.out wS hSw); (try dsimp only at hSw); go_simp; (try with_reducible rfl))
            (try simp only [Act.put, List.setIfInBounds_toArray, List.set_cons_zero, List.set_cons_succ])
            refine wpAnyG_pure 17 (v := ?_) (fun _ => trivial) (by simp only [List.getElem?_toArray, List.getElem?_cons_succ, List.getElem?_cons_zero]; rfl) (by kernel_rfl) (fun _ _ _ _ _ h => h) ⟨(by rfl), (by intro c h; cases h), ?_⟩ hHeld ?_
            rotate_left
            focus (intro wS hSw; (try replace hSw := HSF.out wS hSw); (try dsimp only at hSw); go_simp; (try with_reducible rfl))
            (try simp only [Act.put, List.setIfInBounds_toArray, List.set_cons_zero, List.set_cons_succ])
            refine wpAnyG_pure 18 (v := ?_) (fun _ => trivial) (by simp only [List.getElem?_toArray, List.getElem?_cons_succ, List.getElem?_cons_zero]; rfl) (by kernel_rfl) (fun _ _ _ _ _ h => h) ⟨(by rfl), (by intro c h; cases h), ?_⟩ hHeld ?_
            rotate_left
            focus (intro wS hSw; (try replace hSw := HSF.out wS hSw); (try dsimp only at hSw); go_simp; (try with_reducible rfl))
            (try simp only [Act.put, List.setIfInBounds_toArray, List.set_cons_zero, List.set_cons_succ])
            refine wpAnyG_pure 19 (v := ?_) (fun _ => trivial) (by simp only [List.getElem?_toArray, List.getElem?_cons_succ, List.getElem?_cons_zero]; rfl) (by kernel_rfl) (fun _ _ _ _ _ h => h) ⟨(by rfl), (by intro c h; cases h), ?_⟩ hHeld ?_
            rotate_left
            focus (intro wS hSw; (try replace hSw := HSF.out wS hSw); (try dsimp only at hSw); go_simp; (try with_reducible rfl))
            (try simp only [Act.put, List.setIfInBounds_toArray, List.set_cons_zero, List.set_cons_succ])
            refine wpAnyG_pure 20 (v := ?_) (fun _ => trivial) (by simp only [List.getElem?_toArray, List.getElem?_cons_succ, List.getElem?_cons_zero]; rfl) (by kernel_rfl) (fun _ _ _ _ _ h => h) ⟨(by rfl), (by intro c h; cases h), ?_⟩ hHeld ?_
            rotate_left
            focus (intro wS hSw; (try replace hSw := HSF.out wS hSw); (try dsimp only at hSw); go_simp; (try with_reducible rfl))
            (try simp only [Act.put, List.setIfInBounds_toArray, List.set_cons_zero, List.set_cons_succ])
            refine wpAnyG_pure 21 (v := ?_) (fun _ => trivial) (by simp only [List.getElem?_toArray, List.getElem?_cons_succ, List.getElem?_cons_zero]; rfl) (by kernel_rfl) (fun _ _ _ _ _ h => h) ⟨(by rfl), (by intro c h; cases h), ?_⟩ hHeld ?_
            rotate_left
            focus (intro wS hSw; (try replace hSw := HSF.out wS hSw); (try dsimp only at hSw); go_simp; (try with_reducible rfl))
            (try simp only [Act.put, List.setIfInBounds_toArray, List.set_cons_zero, List.set_cons_succ])
            refine wpAnyG_pure 22 (v := ?_) (fun _ => trivial) (by simp only [List.getElem?_toArray, List.getElem?_cons_succ, List.getElem?_cons_zero]; rfl) (by kernel_rfl) (fun _ _ _ _ _ h => h) ⟨(by rfl), (by intro c h; cases h), ?_⟩ hHeld ?_
            rotate_left
            focus (intro wS hSw; (try replace hSw := HSF.out wS hSw); (try dsimp only at hSw); go_simp; (try with_reducible rfl))
            (try simp only [Act.put, List.setIfInBounds_toArray, List.set_cons_zero, List.set_cons_succ])
            refine wpAnyS_done (by kernel_rfl) ?_
            clear hHeld
            go_wp2_with fail
            go_roundw
            case rel => exact ⟨q + 1, by omega, by go_num, ⟨false, rfl, fun h => by cases h⟩, BB29.out.drew⟩
            case measure => simp [intOf]; omega
        · have hqI : ((q : Int) != (i : Int)) = true := by simp; omega
          have hqI2 : ¬ (q : Int) = (i : Int) := by omega
          have hfin := hid (HLq.out hqi HST.out)
          clear HLq HST
          as_aux_lemma =>
            go_upto_region 29 with fail
            refine wpIn_wide.1 (wpIn_region_S (n := 0) (fun wq => wq.cell? ⟨gV, 1, none⟩ = some (.int .i64 t) ∧ wq.cell? ⟨yb, 0, none⟩ = some (.int .i64 t)) [] (by kernel_rfl) ⟨hc1, y0⟩ (fun hHeld => ?_))
            refine wpAnyG_pure 0 (v := ?_) (fun _ => trivial) (by simp only [List.getElem?_toArray, List.getElem?_cons_succ, List.getElem?_cons_zero]; rfl) (by kernel_rfl) (fun _ _ _ _ _ h => h) ⟨(by rfl), (by intro c h; cases h), ?_⟩ hHeld ?_
            rotate_left
            focus (intro wS hSw; (try replace hSw := HSF.out wS hSw); (try dsimp only at hSw); go_simp; (try with_reducible rfl))
            (try simp only [Act.put, List.setIfInBounds_toArray, List.set_cons_zero, List.set_cons_succ])
            refine wpAnyG_pure 1 (v := ?_) (fun _ => trivial) (by simp only [List.getElem?_toArray, List.getElem?_cons_succ, List.getElem?_cons_zero]; rfl) (by kernel_rfl) (fun _ _ _ _ _ h => h) ⟨(by rfl), (by intro c h; cases h), ?_⟩ hHeld ?_
            rotate_left
            focus (intro wS hSw; (try replace hSw := HSF.out wS hSw); (try dsimp only at hSw); go_simp; (try with_reducible rfl))
            (try simp only [Act.put, List.setIfInBounds_toArray, List.set_cons_zero, List.set_cons_succ])
            refine wpAnyG_pure 2 (v := ?_) (fun _ => trivial) (by simp only [List.getElem?_toArray, List.getElem?_cons_succ, List.getElem?_cons_zero]; rfl) (by kernel_rfl) (fun _ _ _ _ _ h => h) ⟨(by rfl), (by intro c h; cases h), ?_⟩ hHeld ?_
            rotate_left
            focus (intro wS hSw; (try replace hSw := HSF.out wS hSw); (try dsimp only at hSw); go_simp; (try with_reducible rfl))
            (try simp only [Act.put, List.setIfInBounds_toArray, List.set_cons_zero, List.set_cons_succ])
            refine wpAnyG_pure 3 (v := ?_) (fun _ => trivial) (by simp only [List.getElem?_toArray, List.getElem?_cons_succ, List.getElem?_cons_zero]; rfl) (by kernel_rfl) (fun _ _ _ _ _ h => h) ⟨(by rfl), (by intro c h; cases h), ?_⟩ hHeld ?_
            rotate_left
            focus (intro wS hSw; (try replace hSw := HSF.out wS hSw); (try dsimp only at hSw); go_simp; (try with_reducible rfl))
            (try simp only [Act.put, List.setIfInBounds_toArray, List.set_cons_zero, List.set_cons_succ])
            refine wpAnyG_pure 4 (v := ?_) (fun _ => trivial) (by simp only [List.getElem?_toArray, List.getElem?_cons_succ, List.getElem?_cons_zero]; rfl) (by kernel_rfl) (fun _ _ _ _ _ h => h) ⟨(by rfl), (by intro c h; cases h), ?_⟩ hHeld ?_
            rotate_left
            focus (intro wS hSw; (try replace hSw := HSF.out wS hSw); (try dsimp only at hSw); go_simp; (try with_reducible rfl))
            (try simp only [Act.put, List.setIfInBounds_toArray, List.set_cons_zero, List.set_cons_succ])
            refine wpAnyG_pure 5 (v := ?_) (fun _ => trivial) (by simp only [List.getElem?_toArray, List.getElem?_cons_succ, List.getElem?_cons_zero]; rfl) (by kernel_rfl) (fun _ _ _ _ _ h => h) ⟨(by rfl), (by intro c h; cases h), ?_⟩ hHeld ?_
            rotate_left
            focus (intro wS hSw; (try replace hSw := HSF.out wS hSw); (try dsimp only at hSw); go_simp; (try with_reducible rfl))
            (try simp only [Act.put, List.setIfInBounds_toArray, List.set_cons_zero, List.set_cons_succ])
            refine wpAnyG_pure 6 (v := ?_) (fun _ => trivial) (by simp only [List.getElem?_toArray, List.getElem?_cons_succ, List.getElem?_cons_zero]; rfl) (by kernel_rfl) (fun _ _ _ _ _ h => h) ⟨(by rfl), (by intro c h; cases h), ?_⟩ hHeld ?_
            rotate_left
            focus (intro wS hSw; (try replace hSw := HSF.out wS hSw); (try dsimp only at hSw); go_simp; (try with_reducible rfl))
            (try simp only [Act.put, List.setIfInBounds_toArray, List.set_cons_zero, List.set_cons_succ])
            refine wpAnyG_pure 7 (v := ?_) (fun _ => trivial) (by simp only [List.getElem?_toArray, List.getElem?_cons_succ, List.getElem?_cons_zero]; rfl) (by kernel_rfl) (fun _ _ _ _ _ h => h) ⟨(by rfl), (by intro c h; cases h), ?_⟩ hHeld ?_
            rotate_left
            focus (intro wS hSw; (try replace hSw := HSF.out wS hSw); (try dsimp only at hSw); go_simp; (try with_reducible rfl))
            (try simp only [Act.put, List.setIfInBounds_toArray, List.set_cons_zero, List.set_cons_succ])
            refine wpAnyG_pure 8 (v := ?_) (fun _ => trivial) (by simp only [List.getElem?_toArray, List.getElem?_cons_succ, List.getElem?_cons_zero]; rfl) (by kernel_rfl) (fun _ _ _ _ _ h => h) ⟨(by rfl), (by intro c h; cases h), ?_⟩ hHeld ?_
            rotate_left
            focus (intro wS hSw; (try replace hSw := HSF.out wS hSw); (try dsimp only at hSw); go_simp; (try with_reducible rfl))
            (try simp only [Act.put, List.setIfInBounds_toArray, List.set_cons_zero, List.set_cons_succ])
            refine wpAnyG_pure 9 (v := ?_) (fun _ => trivial) (by simp only [List.getElem?_toArray, List.getElem?_cons_succ, List.getElem?_cons_zero]; rfl) (by kernel_rfl) (fun _ _ _ _ _ h => h) ⟨(by rfl), (by intro c h; cases h), ?_⟩ hHeld ?_
            rotate_left
            focus (intro wS hSw; (try replace hSw := HSF.out wS hSw); (try dsimp only at hSw); go_simp; (try with_reducible rfl))
            (try simp only [Act.put, List.setIfInBounds_toArray, List.set_cons_zero, List.set_cons_succ])
            refine wpAnyG_pure 10 (v := ?_) (fun _ => trivial) (by simp only [List.getElem?_toArray, List.getElem?_cons_succ, List.getElem?_cons_zero]; rfl) (by kernel_rfl) (fun _ _ _ _ _ h => h) ⟨(by rfl), (by intro c h; cases h), ?_⟩ hHeld ?_
            rotate_left
            focus (intro wS hSw; (try replace hSw := HSF.out wS hSw); (try dsimp only at hSw); go_simp; (try with_reducible rfl))
            (try simp only [Act.put, List.setIfInBounds_toArray, List.set_cons_zero, List.set_cons_succ])
            refine wpAnyG_take 11 (v := ?_) (fun _ => trivial) (by simp only [List.getElem?_toArray, List.getElem?_cons_succ, List.getElem?_cons_zero]; rfl) (by kernel_rfl) (fun _ _ _ _ _ h => h) ⟨(by rfl), (by intro c h; cases h), ?_⟩ hHeld ?_
            rotate_left
            focus (intro wS hSw; (try replace hSw := HSF.out wS hSw); (try dsimp only at hSw); go_simp; (try with_reducible rfl))
            (try simp only [Act.put, List.setIfInBounds_toArray, List.set_cons_zero, List.set_cons_succ])
            refine wpAnyG_pure 12 (v := ?_) (fun _ => trivial) (by simp only [List.getElem?_toArray, List.getElem?_cons_succ, List.getElem?_cons_zero]; rfl) (by kernel_rfl) (fun _ _ _ _ _ h => h) ⟨(by rfl), (by intro c h; cases h), ?_⟩ hHeld ?_
            rotate_left
            focus (intro wS hSw; (try replace hSw := HSF.out wS hSw); (try dsimp only at hSw); go_simp; (try with_reducible rfl))
            (try simp only [Act.put, List.setIfInBounds_toArray, List.set_cons_zero, List.set_cons_succ])
            refine wpAnyG_take 13 (v := ?_) (fun _ => trivial) (by simp only [List.getElem?_toArray, List.getElem?_cons_succ, List.getElem?_cons_zero]; rfl) (by kernel_rfl) (fun _ _ _ _ _ h => h) ⟨(by rfl), (by intro c h; cases h), ?_⟩ hHeld ?_
            rotate_left
            focus (intro wS hSw; (try replace hSw := HSF.out wS hSw); (try dsimp only at hSw); go_simp; (try with_reducible rfl))
            (try simp only [Act.put, List.setIfInBounds_toArray, List.set_cons_zero, List.set_cons_succ])
            refine wpAnyG_pure 14 (v := ?_) (fun _ => trivial) (by simp only [List.getElem?_toArray, List.getElem?_cons_succ, List.getElem?_cons_zero]; rfl) (by kernel_rfl) (fun _ _ _ _ _ h => h) ⟨(by rfl), (by intro c h; cases h), ?_⟩ hHeld ?_
            rotate_left
            focus (intro wS hSw; (try replace hSw := HSF.out wS hSw); (try dsimp only at hSw); go_simp; (try with_reducible rfl))
            (try simp only [Act.put, List.setIfInBounds_toArray, List.set_cons_zero, List.set_cons_succ])
            refine wpAnyG_pure 15 (v := ?_) (fun _ => trivial) (by simp only [List.getElem?_toArray, List.getElem?_cons_succ, List.getElem?_cons_zero]; rfl) (by kernel_rfl) (fun _ _ _ _ _ h => h) ⟨(by rfl), (by intro c h; cases h), ?_⟩ hHeld ?_
            rotate_left
            focus (intro wS hSw; (try replace hSw := HSF.out wS hSw); (try dsimp only at hSw); go_simp; (try with_reducible rfl))
            (try simp only [Act.put, List.setIfInBounds_toArray, List.set_cons_zero, List.set_cons_succ])
            refine wpAnyG_pure 16 (v := ?_) (fun _ => trivial) (by simp only [List.getElem?_toArray, List.getElem?_cons_succ, List.getElem?_cons_zero]; rfl) (by kernel_rfl) (fun _ _ _ _ _ h => h) ⟨(by rfl), (by intro c h; cases h), ?_⟩ hHeld ?_
            rotate_left
            focus (intro wS hSw; (try replace hSw := HSF.out wS hSw); (try dsimp only at hSw); go_simp; (try with_reducible rfl))
            (try simp only [Act.put, List.setIfInBounds_toArray, List.set_cons_zero, List.set_cons_succ])
            refine wpAnyG_pure 17 (v := ?_) (fun _ => trivial) (by simp only [List.getElem?_toArray, List.getElem?_cons_succ, List.getElem?_cons_zero]; rfl) (by kernel_rfl) (fun _ _ _ _ _ h => h) ⟨(by rfl), (by intro c h; cases h), ?_⟩ hHeld ?_
            rotate_left
            focus (intro wS hSw; (try replace hSw := HSF.out wS hSw); (try dsimp only at hSw); go_simp; (try with_reducible rfl))
            (try simp only [Act.put, List.setIfInBounds_toArray, List.set_cons_zero, List.set_cons_succ])
            refine wpAnyG_pure 18 (v := ?_) (fun _ => trivial) (by simp only [List.getElem?_toArray, List.getElem?_cons_succ, List.getElem?_cons_zero]; rfl) (by kernel_rfl) (fun _ _ _ _ _ h => h) ⟨(by rfl), (by intro c h; cases h), ?_⟩ hHeld ?_
            rotate_left
            focus (intro wS hSw; (try replace hSw := HSF.out wS hSw); (try dsimp only at hSw); go_simp; (try with_reducible rfl))
            (try simp only [Act.put, List.setIfInBounds_toArray, List.set_cons_zero, List.set_cons_succ])
            refine wpAnyG_pure 19 (v := ?_) (fun _ => trivial) (by simp only [List.getElem?_toArray, List.getElem?_cons_succ, List.getElem?_cons_zero]; rfl) (by kernel_rfl) (fun _ _ _ _ _ h => h) ⟨(by rfl), (by intro c h; cases h), ?_⟩ hHeld ?_
            rotate_left
            focus (intro wS hSw; (try replace hSw := HSF.out wS hSw); (try dsimp only at hSw); go_simp; (try with_reducible rfl))
            (try simp only [Act.put, List.setIfInBounds_toArray, List.set_cons_zero, List.set_cons_succ])
            refine wpAnyG_pure 20 (v := ?_) (fun _ => trivial) (by simp only [List.getElem?_toArray, List.getElem?_cons_succ, List.getElem?_cons_zero]; rfl) (by kernel_rfl) (fun _ _ _ _ _ h => h) ⟨(by rfl), (by intro c h; cases h), ?_⟩ hHeld ?_
            rotate_left
            focus (intro wS hSw; (try replace hSw := HSF.out wS hSw); (try dsimp only at hSw); go_simp; (try with_reducible rfl))
            (try simp only [Act.put, List.setIfInBounds_toArray, List.set_cons_zero, List.set_cons_succ])
            refine wpAnyG_pure 21 (v := ?_) (fun _ => trivial) (by simp only [List.getElem?_toArray, List.getElem?_cons_succ, List.getElem?_cons_zero]; rfl) (by kernel_rfl) (fun _ _ _ _ _ h => h) ⟨(by rfl), (by intro c h; cases h), ?_⟩ hHeld ?_
            rotate_left
            focus (intro wS hSw; (try replace hSw := HSF.out wS hSw); (try dsimp only at hSw); go_simp; (try with_reducible rfl))
            (try simp only [Act.put, List.setIfInBounds_toArray, List.set_cons_zero, List.set_cons_succ])
            refine wpAnyG_pure 22 (v := ?_) (fun _ => trivial) (by simp only [List.getElem?_toArray, List.getElem?_cons_succ, List.getElem?_cons_zero]; rfl) (by kernel_rfl) (fun _ _ _ _ _ h => h) ⟨(by rfl), (by intro c h; cases h), ?_⟩ hHeld ?_
            rotate_left
            focus (intro wS hSw; (try replace hSw := HSF.out wS hSw); (try dsimp only at hSw); go_simp; (try with_reducible rfl))
            (try simp only [Act.put, List.setIfInBounds_toArray, List.set_cons_zero, List.set_cons_succ])
            refine wpAnyS_done (by kernel_rfl) ?_
            clear hHeld
            go_wp2_with fail
            go_roundw
            case rel => exact ⟨q + 1, by omega, by go_num, ⟨true, rfl, fun _ => hfin.out⟩, BB29.out.drew⟩
            case measure => simp [intOf]; omega

end Go.Proofs.Ytdjjhflhdhihcaa
