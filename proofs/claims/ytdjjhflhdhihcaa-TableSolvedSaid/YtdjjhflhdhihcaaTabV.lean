
/- Table: TableSolved, the walk. -/
import Derived.Test.YtdjjhflhdhihcaaTabU
import Derived.Test.YtdjjhflhdhihcaaGamTo
set_option linter.unusedSimpArgs false
set_option linter.unusedVariables false
namespace Go.Proofs.Ytdjjhflhdhihcaa
open Go.RowKit Go.IntWalk Go.Shelf

set_option maxRecDepth 100000 in
set_option maxHeartbeats 8000000 in
theorem tsolved_any (Ag Am B : Option Addr) (cg cm c : Nat) (g : Gm) (rows : List Row) (w : World) (h : GmR w w.heap.size Ag Am g) (hl : rows.length ≤ maxLen) (h1 : SlR w w.heap.size B rows) :
    Calls Try.prog 4 #[.agg #[.slice Ag g.1.length cg, .slice Am g.2.length cm], .slice B rows.length c] w fun e w' => e = .returned (.bool true) ∧ Below w.heap.size w w' := by
  obtain ⟨w1, hw1⟩ : ∃ w1, w1 = w.alloc (Obj.cells #[.slice Ag g.1.length cg, .slice Am g.2.length cm] 25) := ⟨_, rfl⟩
  have B1 := hid (show Below w.heap.size w w1 by rw [hw1]; (repeat (first | exact Below.refl _ _ | assumption | refine below_drewN ?_ _ | refine Below.drew ?_ | refine Below.alloc ?_ (by (try simp); (try omega)) _ | refine Below.setCell ?_ (by (try simp); (try omega)) _)))
  have X1 := hid (show Blk w1 w.heap.size 25 #[.slice Ag g.1.length cg, .slice Am g.2.length cm] by rw [hw1]; exact Blk.new w _ _)
  have H := hid h; have HR := hid h1
  have HS := hid (tsmall_any w1)
  have HF := hid (fun (W : World) (hW : Below w.heap.size w W) => fair_any Ag Am B cg cm c g rows W (h.to hW) hl)
  have HACT := hid h.acts
  clear h h1
  go_enter Try.func4, Try.ntmps4
  go_upto_region 1 with fail
  rw [← hw1]
  clear hw1
  go_wp2_with fail
  refine HS.out.mono ?_
  rintro e w2 ⟨rfl, hB⟩
  have B2 := hid (B1.out.trans (hB.mono B1.out.size))
  have X2 := hid (X1.out.below hB X1.out.lt)
  have HC := hid (HF.out w2 B2.out)
  clear hB HS HF B1 X1
  have x0 := X2.out.cell 0; have x1 := X2.out.cell 1; have xz := X2.out.lt
  simp at x0 x1
  go_wp2_with fail
  refine HC.out.mono ?_
  rintro e w3 ⟨rfl, hB⟩
  have B3 := hid (B2.out.trans (hB.mono B2.out.size))
  have X3 := hid (X2.out.below hB X2.out.lt)
  clear hB HC B2 X2 x0 x1 xz
  cases hf : fairL g rows with
  | false =>
    as_aux_lemma =>
      go_wp2_with fail
      go_ret
      exact ⟨rfl, B3.out⟩
  | true =>
  obtain ⟨hrt, hok, h60⟩ := fair_parts hf
  have HRT := hid hrt; have HOK := hid hok
  have HCK := hid (fun (W : World) (hW : Below w.heap.size w W) (A : Option Addr) (c : Nat) (rs : List Row) (hl : rs.length ≤ 1000000) (hs : SlR W W.heap.size A rs) => check_any Ag Am A cg cm c g rs W (H.out.to hW) hrt hok hl hs)
  have HSV := hid (solve_any Ag Am cg cm g w3 (H.out.to B3.out) hok)
  clear hf hrt hok
  have x0 := X3.out.cell 0; have x1 := X3.out.cell 1; have xz := X3.out.lt
  simp at x0 x1
  go_wp2_with fail
  refine HSV.out.mono ?_
  rintro e w4 ⟨v, rfl, ho, hB⟩
  have B4 := hid (B3.out.trans (hB.mono B3.out.size))
  have X4 := hid (X3.out.below hB X3.out.lt)
  obtain ⟨A4, c4, rfl, hm4, hs4, hl4⟩ := solve_form HOK.out ho (solve_rows HOK.out HACT.out)
  have S4 := hid hs4
  clear hB HSV B3 X3 x0 x1 xz ho hs4
  have HSA := hid (solve_asc g)
  have HSG := hid (solve_good HRT.out HOK.out)
  have HSL := hid (fun (rs : List Row) (hgd : ∀ r ∈ rs, tGood g rs r = true) (r : Row) (hr : r ∈ rs) => solved_law HOK.out hgd hr)
  generalize solveL g = bs at *
  have HC := hid (HCK.out w4 B4.out A4 c4 bs (by omega) S4.out)
  have x0 := X4.out.cell 0; have x1 := X4.out.cell 1; have xz := X4.out.lt
  simp at x0 x1
  go_wp2_with fail
  refine HC.out.mono ?_
  rintro e w5 ⟨k5, cc5, rfl, hck, hB⟩
  obtain ⟨rfl, rfl⟩ := hck.all HSA.out HSG.out
  have B5 := hid (B4.out.trans (hB.mono B4.out.size))
  have X5 := hid (X4.out.below hB X4.out.lt)
  have S5 := hid ((S4.out.below hB).more hB.size)
  clear hB HC B4 X4 S4 x0 x1 xz hck
  have HC := hid (HCK.out w5 B5.out B c rows (by omega) ((HR.out.below B5.out).more B5.out.size))
  have x0 := X5.out.cell 0; have x1 := X5.out.cell 1; have xz := X5.out.lt
  simp at x0 x1
  go_wp2_with fail
  refine HC.out.mono ?_
  rintro e w6 ⟨k6, cc6, rfl, hck, hB⟩
  have B6 := hid (B5.out.trans (hB.mono B5.out.size))
  have S6 := hid ((S5.out.below hB).more hB.size)
  clear hB HC B5 X5 S5 x0 x1 xz HCK
  by_cases hc0 : cc6 = 0
  case neg =>
    as_aux_lemma =>
      go_wp2_with fail
      go_ret
      exact ⟨rfl, B6.out⟩
  subst hc0
  obtain ⟨hasc, hgd⟩ := hck.ok
  have HL := hid (HSL.out rows hgd)
  have HRW := hid (fun (t : Int) (W : World) (hW : Below w6.heap.size w6 W) => trow_any A4 c4 bs t W (by omega) HSA.out ((S6.out.below hW).more hW.size))
  clear hck hasc hgd HSL HSA HSG
  go_upto_region 12 with fail
  go_loopw [11, 12, 13] (fun iv _ _ wr => ∃ i : Nat, i ≤ rows.length ∧ iv = .int .i64 i ∧ Below w6.heap.size w6 wr) (fun iv _ _ _ => rows.length - (intOf iv).toNat)
  case atStart => exact ⟨0, by omega, rfl, Below.refl _ _⟩
  case round =>
    obtain ⟨i, hi, rfl, hB⟩ := hrel
    have HB := hid hB
    have BR := hid (B6.out.trans (hB.mono B6.out.size))
    clear hB
    by_cases hil : i < rows.length
    case neg =>
      as_aux_lemma =>
        go_wp2_with fail
        go_ret
        exact ⟨rfl, BR.out⟩
    have hilI : (i : Int) < rows.length := by omega
    obtain ⟨x, hx, hxr⟩ := HL.out rows[i] (List.getElem_mem hil)
    obtain ⟨b, off, rfl, hbz, c1, c2, c3, -⟩ := HR.out.row hil
    replace c1 := (bcell BR.out b _ hbz).trans c1
    replace c3 := (bcell BR.out b _ hbz).trans c3
    have hz : b < wr.heap.size := by have := BR.out.size; omega
    generalize rows[i] = y at *
    obtain ⟨y0, y1, y2⟩ := y
    obtain ⟨x0, x1, x2⟩ := x
    simp only at c1 c2 c3 hx hxr
    have HX := hid hx
    have HC := hid (HRW.out y0 wr HB.out)
    clear hx c2
    go_wp2_with fail
    refine HC.out.mono ?_
    rintro e w8 ⟨hrr, hB⟩
    have BB8 := hid (HB.out.trans (hB.mono HB.out.size))
    have B8 := hid (BR.out.trans (hB.mono BR.out.size))
    have c38 := (bcell hB _ _ hz).trans c3
    have hz8 : b < w8.heap.size := by have := hB.size; omega
    clear hB HC BR HB c1 c3
    rcases hrr with ⟨z, hz2, -, rfl⟩ | ⟨hz2, rfl⟩
    case inr => rw [HX.out] at hz2; cases hz2
    have hzx : z = (x0, x1, x2) := by rw [HX.out] at hz2; injection hz2 with hz2; exact hz2.symm
    subst hzx
    simp only
    clear hz2
    obtain ⟨w9, hw9⟩ : ∃ w9, w9 = w8.alloc (Obj.cells #[.int .i64 x0, .int .i64 x1, .int .i64 x2] 33) := ⟨_, rfl⟩
    have b9 := hid (show Below w8.heap.size w8 w9 by rw [hw9]; (repeat (first | exact Below.refl _ _ | assumption | refine below_drewN ?_ _ | refine Below.drew ?_ | refine Below.alloc ?_ (by (try simp); (try omega)) _ | refine Below.setCell ?_ (by (try simp); (try omega)) _)))
    have Y9 := hid (show Blk w9 w8.heap.size 33 #[.int .i64 x0, .int .i64 x1, .int .i64 x2] by rw [hw9]; exact Blk.new w8 _ _)
    have B9 := hid (B8.out.trans (b9.out.mono B8.out.size))
    have BB9 := hid (BB8.out.trans (b9.out.mono BB8.out.size))
    have c39 := (bcell b9.out _ _ hz8).trans c38
    have y2' := Y9.out.cell 2; have yz := Y9.out.lt
    simp at y2'
    go_upto_region 15 with fail
    rw [← hw9]
    clear hw9 b9 B8 BB8 c38 hz8
    have hng : ¬ y2 < x2 := by omega
    generalize w8.heap.size = yb at *
    as_aux_lemma =>
      refine wpIn_wide.1 (wpIn_region_S (n := 0) (fun wq => wq.cell? ⟨yb, 2, none⟩ = some (.int .i64 x2) ∧ wq.cell? ⟨b, off + i * 3 + 2, none⟩ = some (.int .i64 y2)) [] (by kernel_rfl) ⟨y2', c39⟩ (fun hHeld => ?_))
      refine wpAnyG_pure 0 (v := ?_) (fun _ => trivial) (by simp only [List.getElem?_toArray, List.getElem?_cons_succ, List.getElem?_cons_zero]; rfl) (by kernel_rfl) (fun _ _ _ _ _ h => h) ⟨(by rfl), (by intro c h; cases h), ?_⟩ hHeld ?_
      rotate_left
      focus (intro wS hSw; (try replace hSw := HSF.out wS hSw); (try dsimp only at hSw); go_simp; (try with_reducible rfl))
      (try simp only [Act.put, List.setIfInBounds_toArray, List.set_cons_zero, List.set_cons_succ])
      refine wpAnyG_pure 1 (v := ?_) (fun _ => trivial) (by simp only [List.getElem?_toArray, List.getElem?_cons_succ, List.getElem?_cons_zero]; rfl) (by kernel_rfl) (fun _ _ _ _ _ h => h) ⟨(by rfl), (by intro c h; cases h), ?_⟩ hHeld ?_
      rotate_left
      focus (intro wS hSw; (try replace hSw := HSF.out wS hSw); (try dsimp only at hSw); go_simp; (try with_reducible rfl))
      (try simp only [Act.put, List.setIfInBounds_toArray, List.set_cons_zero, List.set_cons_succ])
      refine wpAnyG_pure 2 (v := ?_) (fun _ => trivial) (by simp only [List.getElem?_toArray, List.getElem?_cons_succ, List.getElem?_cons_zero]; rfl) (by kernel_rfl) (fun _ _ _ _ _ h => h) ⟨(by rfl), (by intro c h; cases h), ?_⟩ hHeld ?_
      rotate_left
      focus (intro wS hSw; (try replace hSw := HSF.out wS hSw); (try dsimp only at hSw); go_simp; (try with_reducible rfl))
      (try simp only [Act.put, List.setIfInBounds_toArray, List.set_cons_zero, List.set_cons_succ])
      refine wpAnyG_pure 3 (v := ?_) (fun _ => trivial) (by simp only [List.getElem?_toArray, List.getElem?_cons_succ, List.getElem?_cons_zero]; rfl) (by kernel_rfl) (fun _ _ _ _ _ h => h) ⟨(by rfl), (by intro c h; cases h), ?_⟩ hHeld ?_
      rotate_left
      focus (intro wS hSw; (try replace hSw := HSF.out wS hSw); (try dsimp only at hSw); go_simp; (try with_reducible rfl))
      (try simp only [Act.put, List.setIfInBounds_toArray, List.set_cons_zero, List.set_cons_succ])
      refine wpAnyG_take 4 (v := ?_) (fun _ => trivial) (by simp only [List.getElem?_toArray, List.getElem?_cons_succ, List.getElem?_cons_zero]; rfl) (by kernel_rfl) (fun _ _ _ _ _ h => h) ⟨(by rfl), (by intro c h; cases h), ?_⟩ hHeld ?_
      rotate_left
      focus (intro wS hSw; (try replace hSw := HSF.out wS hSw); (try dsimp only at hSw); go_simp; (try with_reducible rfl))
      (try simp only [Act.put, List.setIfInBounds_toArray, List.set_cons_zero, List.set_cons_succ])
      refine wpAnyG_pure 5 (v := ?_) (fun _ => trivial) (by simp only [List.getElem?_toArray, List.getElem?_cons_succ, List.getElem?_cons_zero]; rfl) (by kernel_rfl) (fun _ _ _ _ _ h => h) ⟨(by rfl), (by intro c h; cases h), ?_⟩ hHeld ?_
      rotate_left
      focus (intro wS hSw; (try replace hSw := HSF.out wS hSw); (try dsimp only at hSw); go_simp; (try with_reducible rfl))
      (try simp only [Act.put, List.setIfInBounds_toArray, List.set_cons_zero, List.set_cons_succ])
      refine wpAnyG_pure 6 (v := ?_) (fun _ => trivial) (by simp only [List.getElem?_toArray, List.getElem?_cons_succ, List.getElem?_cons_zero]; rfl) (by kernel_rfl) (fun _ _ _ _ _ h => h) ⟨(by rfl), (by intro c h; cases h), ?_⟩ hHeld ?_
      rotate_left
      focus (intro wS hSw; (try replace hSw := HSF.out wS hSw); (try dsimp only at hSw); go_simp; (try with_reducible rfl))
      (try simp only [Act.put, List.setIfInBounds_toArray, List.set_cons_zero, List.set_cons_succ])
      refine wpAnyG_pure 7 (v := ?_) (fun _ => trivial) (by simp only [List.getElem?_toArray, List.getElem?_cons_succ, List.getElem?_cons_zero]; rfl) (by kernel_rfl) (fun _ _ _ _ _ h => h) ⟨(by rfl), (by intro c h; cases h), ?_⟩ hHeld ?_
      rotate_left
      focus (intro wS hSw; (try replace hSw := HSF.out wS hSw); (try dsimp only at hSw); go_simp; (try with_reducible rfl))
      (try simp only [Act.put, List.setIfInBounds_toArray, List.set_cons_zero, List.set_cons_succ])
      refine wpAnyG_pure 8 (v := ?_) (fun _ => trivial) (by simp only [List.getElem?_toArray, List.getElem?_cons_succ, List.getElem?_cons_zero]; rfl) (by kernel_rfl) (fun _ _ _ _ _ h => h) ⟨(by rfl), (by intro c h; cases h), ?_⟩ hHeld ?_
      rotate_left
      focus (intro wS hSw; (try replace hSw := HSF.out wS hSw); (try dsimp only at hSw); go_simp; (try with_reducible rfl))
      (try simp only [Act.put, List.setIfInBounds_toArray, List.set_cons_zero, List.set_cons_succ])
      refine wpAnyG_take 9 (v := ?_) (fun _ => trivial) (by simp only [List.getElem?_toArray, List.getElem?_cons_succ, List.getElem?_cons_zero]; rfl) (by kernel_rfl) (fun _ _ _ _ _ h => h) ⟨(by rfl), (by intro c h; cases h), ?_⟩ hHeld ?_
      rotate_left
      focus (intro wS hSw; (try replace hSw := HSF.out wS hSw); (try dsimp only at hSw); go_simp; (try with_reducible rfl))
      (try simp only [Act.put, List.setIfInBounds_toArray, List.set_cons_zero, List.set_cons_succ])
      refine wpAnyG_pure 10 (v := ?_) (fun _ => trivial) (by simp only [List.getElem?_toArray, List.getElem?_cons_succ, List.getElem?_cons_zero]; rfl) (by kernel_rfl) (fun _ _ _ _ _ h => h) ⟨(by rfl), (by intro c h; cases h), ?_⟩ hHeld ?_
      rotate_left
      focus (intro wS hSw; (try replace hSw := HSF.out wS hSw); (try dsimp only at hSw); go_simp; (try with_reducible rfl))
      (try simp only [Act.put, List.setIfInBounds_toArray, List.set_cons_zero, List.set_cons_succ])
      refine wpAnyG_pure 11 (v := ?_) (fun _ => trivial) (by simp only [List.getElem?_toArray, List.getElem?_cons_succ, List.getElem?_cons_zero]; rfl) (by kernel_rfl) (fun _ _ _ _ _ h => h) ⟨(by rfl), (by intro c h; cases h), ?_⟩ hHeld ?_
      rotate_left
      focus (intro wS hSw; (try replace hSw := HSF.out wS hSw); (try dsimp only at hSw); go_simp; (try with_reducible rfl))
      (try simp only [Act.put, List.setIfInBounds_toArray, List.set_cons_zero, List.set_cons_succ])
      refine wpAnyS_done (by kernel_rfl) ?_
      clear hHeld
      go_wp2_with fail
      go_roundw
      case rel => exact ⟨i + 1, by omega, by go_num, BB9.out.drew⟩
      case measure => simp [intOf]; omega
end Go.Proofs.Ytdjjhflhdhihcaa
