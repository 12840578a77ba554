
/- Table: TableNeeds, the walk. -/
import Derived.Test.YtdjjhflhdhihcaaTabWl
import Derived.Test.YtdjjhflhdhihcaaTabXp
set_option linter.unusedSimpArgs false
set_option linter.unusedVariables false
namespace Go.Proofs.Ytdjjhflhdhihcaa
open Go.RowKit Go.IntWalk Go.Shelf

theorem folF_i64 {g : Gm} (hr : rightL g = true) (hn : g.1.length ≤ 1000) (rows : List Row) : ∀ (as_ : List Int) (p : Int), ∀ x ∈ folF g rows p as_, I64 x
  | [], _, x, hx => by cases hx
  | a :: r, p, x, hx => by
    simp only [folF] at hx
    cases hq : stepF g rows p a with
    | none => rw [hq] at hx; cases hx
    | some q =>
      rw [hq] at hx
      simp only at hx
      rcases List.mem_cons.1 hx with rfl | hx
      · unfold stepF at hq
        cases hrow : tRow rows p with
        | none => rw [hrow] at hq; cases hq
        | some y =>
          rw [hrow] at hq
          simp only at hq
          split at hq
          · cases hq
          · cases hmv : tMove g p y.2.1 with
            | none => rw [hmv] at hq; cases hq
            | some m =>
              rw [hmv] at hq
              simp only [Option.some.injEq] at hq
              obtain ⟨hne, hrg⟩ := mvs_ne hr (tMove_mem hmv).2.1
              have hlt := (idxT_lt (n := m.2.length) (a := a) (by have := List.length_pos_iff.2 hne; omega)).1
              have hin : x ∈ m.2 := by
                rw [← hq, List.getD_eq_getElem?_getD, List.getElem?_eq_getElem (by omega)]
                exact List.getElem_mem _
              have := hrg x hin
              unfold I64; omega
      · exact folF_i64 hr hn rows r q x hx
theorem fol_i64 {g : Gm} (hr : rightL g = true) (hn : g.1.length ≤ 1000) (rows : List Row) (p : Int) (as_ : List Int) : ∀ x ∈ folL g rows p as_, I64 x := by
  intro x hx
  unfold folL at hx
  split at hx
  · rename_i hp
    have hp := isP_iff.1 hp
    rcases List.mem_cons.1 hx with rfl | hx
    · unfold I64; omega
    · exact folF_i64 hr hn rows as_ p x hx
  · cases hx
theorem neq_row (x y z : Int) (w : World) : (binOp .neq 33 (.agg #[.int .i64 x, .int .i64 y, .int .i64 z]) (.agg #[.int .i64 x, .int .i64 y, .int .i64 z])).run Try.prog w = .ok (.bool false) w := by
  have u3 := Try.underlying3
  have a3 := Try.isAgg3
  have z3 := Try.sizeOf3
  have hS : Try.prog.underlying 33 = some (.struct (Try.prog.fieldsOf 33)) := by kernel_rfl
  have hp : Try.prog.stoodInHeld 33 = false := by kernel_rfl
  rw [run_neq_struct, show (10000 : Nat) = 9999 + 1 from rfl, run_equalIn_agg w 9999 33 _ _ hS hp]
  simp only [Program.fieldsOf, Try.underlying33]
  go_simp
set_option maxRecDepth 100000 in
set_option maxHeartbeats 16000000 in
theorem tneeds_any (Ag Am B D : Option Addr) (cg cm c d : Nat) (g : Gm) (rows : List Row) (pos at_ : Int) (ans : List Int) (w : World) (h : GmR w w.heap.size Ag Am g) (hl : rows.length ≤ maxLen) (h1 : SlR w w.heap.size B rows) (hla : ans.length ≤ maxLen) (h2 : SlR w w.heap.size D ans) (hpos : I64 pos) :
    Calls Try.prog 5 #[.agg #[.slice Ag g.1.length cg, .slice Am g.2.length cm], .slice B rows.length c, .int .i64 pos, .slice D ans.length d, .int .i64 at_] w fun e w' => e = .returned (.bool true) ∧ Below w.heap.size w w' := by
  unfold maxLen at hl hla
  obtain ⟨w1, hw1⟩ : ∃ w1, w1 = w.alloc (Obj.cells #[.slice Ag g.1.length cg, .slice Am g.2.length cm] 25) := ⟨_, rfl⟩
  have B1 := hid (show Below w.heap.size w w1 by rw [hw1]; (repeat (first | exact Below.refl _ _ | assumption | refine below_drewN ?_ _ | refine Below.drew ?_ | refine Below.alloc ?_ (by (try simp); (try omega)) _ | refine Below.setCell ?_ (by (try simp); (try omega)) _)))
  have X1 := hid (show Blk w1 w.heap.size 25 #[.slice Ag g.1.length cg, .slice Am g.2.length cm] by rw [hw1]; exact Blk.new w _ _)
  have H := hid h; have HR := hid h1; have HD := hid h2
  have HS := hid (tsmall_any w1)
  have HF := hid (fun (W : World) (hW : Below w.heap.size w W) => fair_any Ag Am B cg cm c g rows W (h.to hW) hl)
  have HRO := hid (rows_ok h1)
  clear h h1 h2
  go_enter Try.func5, Try.ntmps5
  go_upto_region 1 with fail
  rw [← hw1]
  clear hw1
  go_wp2_with fail
  refine HS.out.mono ?_
  rintro e w2 ⟨rfl, hB⟩
  have B2 := hid (B1.out.trans (hB.mono B1.out.size))
  have X2 := hid (X1.out.below hB X1.out.lt)
  have HC := hid (HF.out w2 B2.out)
  clear hB HS HF B1 X1
  have x0 := X2.out.cell 0; have x1 := X2.out.cell 1; have xz := X2.out.lt
  simp at x0 x1
  go_wp2_with fail
  refine HC.out.mono ?_
  rintro e w3 ⟨rfl, hB⟩
  have B3 := hid (B2.out.trans (hB.mono B2.out.size))
  have X3 := hid (X2.out.below hB X2.out.lt)
  clear hB HC B2 X2 x0 x1 xz
  cases hf : fairL g rows with
  | false =>
    as_aux_lemma =>
      go_wp2_with fail
      go_ret
      exact ⟨rfl, B3.out⟩
  | true =>
  obtain ⟨hrt, hok, h60⟩ := fair_parts hf
  have HRT := hid hrt; have HOK := hid hok
  have HCK := hid (fun (W : World) (hW : Below w.heap.size w W) (A : Option Addr) (c : Nat) (rs : List Row) (hl : rs.length ≤ 1000000) (hs : SlR W W.heap.size A rs) => check_any Ag Am A cg cm c g rs W (H.out.to hW) hrt hok hl hs)
  clear hf hrt hok
  by_cases ha60 : (60 : Int) < ans.length
  case pos =>
    as_aux_lemma =>
      go_wp2_with fail
      go_ret
      exact ⟨rfl, B3.out⟩
  have hans : ans.length ≤ 1000 := by omega
  have x0 := X3.out.cell 0; have x1 := X3.out.cell 1; have xz := X3.out.lt
  simp at x0 x1
  have HC := hid (HCK.out w3 B3.out B c rows (by omega) ((HR.out.below B3.out).more B3.out.size))
  go_wp2_with fail
  refine HC.out.mono ?_
  rintro e w4 ⟨k4, cc4, rfl, hck, hB⟩
  have B4 := hid (B3.out.trans (hB.mono B3.out.size))
  have X4 := hid (X3.out.below hB X3.out.lt)
  clear hB HC B3 X3 x0 x1 xz
  by_cases hc0 : cc4 = 0
  case neg =>
    as_aux_lemma =>
      go_wp2_with fail
      go_ret
      exact ⟨rfl, B4.out⟩
  subst hc0
  obtain ⟨hasc, hgd⟩ := hck.ok
  have HASC := hid hasc; have HGD := hid hgd
  have HND := hid (needs_any Ag Am B cg cm c g rows pos w4 (H.out.to B4.out) HRT.out HOK.out (by omega) hasc ((HR.out.below B4.out).more B4.out.size) hpos)
  have HRW := hid (fun (t : Int) (W : World) (hW : Below w.heap.size w W) => trow_any B c rows t W (by omega) hasc ((HR.out.below hW).more hW.size))
  have HFO := hid (fun (W : World) (hW : Below w.heap.size w W) (A : Option Addr) (c : Nat) (rs : List Row) (hl : rs.length ≤ 1000000) (ha : Asc kP rs) (hs : SlR W W.heap.size A rs) => follow_any Ag Am A D cg cm c d g rs pos ans W (H.out.to hW) HRT.out HOK.out hl ha hs hans ((HD.out.below hW).more hW.size))
  clear hck hasc hgd
  have x0 := X4.out.cell 0; have x1 := X4.out.cell 1; have xz := X4.out.lt
  simp at x0 x1
  go_wp2_with fail
  refine HND.out.mono ?_
  rintro e w5 ⟨v, l, rfl, hol, hnd, hB⟩
  have B5 := hid (B4.out.trans (hB.mono B4.out.size))
  have X5 := hid (X4.out.below hB X4.out.lt)
  have hlsub := hnd.sub
  have hllen : l.length ≤ rows.length := nodup_sub l rows (List.Pairwise.imp (fun hab e => by subst e; simp only [kP] at hab; omega) hnd.asc) hlsub
  obtain ⟨A5, c5, rfl, hlc, hlm, hs5⟩ := RK.Own.slr hol (fun x hx => HRO.out x (hlsub x hx))
  unfold maxLen at hlm
  have S5 := hid hs5
  have N := hid hnd
  have HLO := hid (fun x (hx : x ∈ l) => HRO.out x (hlsub x hx))
  clear hB HND B4 X4 x0 x1 xz hol hnd hs5 hlsub
  have HSI := hid (NdR.some_iff HRT.out HGD.out N.out)
  have HMEM := hid N.out.mem
  have HLG := hid (NdR.good HGD.out N.out)
  have HFL := hid (NdR.folL HRT.out N.out ans)
  have HLE := hid (fun (i : Nat) (hi : i < l.length) (hne : l[i].1 ≠ pos) (k c : Int) (hk : ChkR g (l.take i ++ l.drop (i + 1)) k c) => NdR.less HRT.out HGD.out N.out hi hne hk)
  have HLA := hid N.out.asc
  clear N
  have HC := hid (HRW.out pos w5 B5.out)
  go_wp2_with fail
  refine HC.out.mono ?_
  rintro e w6 ⟨hrr, hB⟩
  have B6 := hid (B5.out.trans (hB.mono B5.out.size))
  have X6 := hid (X5.out.below hB X5.out.lt)
  have S6 := hid ((S5.out.below hB).more hB.size)
  clear hB HC B5 X5 S5
  obtain ⟨xa, xb, xc, okb, rfl, hokb⟩ : ∃ (xa xb xc : Int) (okb : Bool), e = .returned (.tuple #[.agg #[.int .i64 xa, .int .i64 xb, .int .i64 xc], .bool okb]) ∧ okb = decide (0 < l.length) := by
    rw [HSI.out]
    rcases hrr with ⟨x, hx, -, rfl⟩ | ⟨hx, rfl⟩
    · exact ⟨_, _, _, _, rfl, by rw [hx]; rfl⟩
    · exact ⟨_, _, _, _, rfl, by rw [hx]; rfl⟩
  subst hokb
  clear hrr HSI
  obtain ⟨w7, hw7⟩ : ∃ w7, w7 = w6.alloc (Obj.cells #[.int .i64 xa, .int .i64 xb, .int .i64 xc] 33) := ⟨_, rfl⟩
  have b7 := hid (show Below w6.heap.size w6 w7 by rw [hw7]; (repeat (first | exact Below.refl _ _ | assumption | refine below_drewN ?_ _ | refine Below.drew ?_ | refine Below.alloc ?_ (by (try simp); (try omega)) _ | refine Below.setCell ?_ (by (try simp); (try omega)) _)))
  have B7 := hid (B6.out.trans (b7.out.mono B6.out.size))
  have X7 := hid (X6.out.below b7.out X6.out.lt)
  have S7 := hid ((S6.out.below b7.out).more b7.out.size)
  go_upto_region 9 with fail
  rw [← hw7]
  clear hw7 b7 B6 X6 S6
  have HNQ := hid neq_row
  go_upto_region 12 with fail
  go_loopw [17, 18, 19] (fun iv _ _ wr => ∃ i : Nat, i ≤ l.length ∧ iv = .int .i64 i ∧ Below w7.heap.size w7 wr) (fun iv _ _ _ => l.length - (intOf iv).toNat)
  case atStart => exact ⟨0, by omega, rfl, Below.refl _ _⟩
  case round =>
    obtain ⟨i, hi, rfl, hB⟩ := hrel
    have HB := hid hB
    have BR := hid (B7.out.trans (hB.mono B7.out.size))
    have XR := hid (X7.out.below hB X7.out.lt)
    have SR := hid ((S7.out.below hB).more hB.size)
    clear hB
    by_cases hil : i < l.length
    case pos =>
      have hilI : (i : Int) < l.length := by omega
      obtain ⟨b, off, rfl, hbz, c1, c2, c3, -⟩ := SR.out.row hil
      have HX := hid (HMEM.out l[i] (List.getElem_mem hil))
      generalize l[i] = y at *
      obtain ⟨y0, y1, y2⟩ := y
      simp only at c1 c2 c3 HX
      have HC := hid (HRW.out y0 wr BR.out)
      go_wp2_with fail
      refine HC.out.mono ?_
      rintro e w8 ⟨hrr, hB⟩
      have BB8 := hid (HB.out.trans (hB.mono HB.out.size))
      replace c1 := (bcell hB _ _ hbz).trans c1
      replace c2 := (bcell hB _ _ hbz).trans c2
      replace c3 := (bcell hB _ _ hbz).trans c3
      have hz8 : b < w8.heap.size := by have := hB.size; omega
      clear hB HC BR HB XR
      rcases hrr with ⟨z, hz2, -, rfl⟩ | ⟨hz2, rfl⟩
      case inr => rw [HX.out] at hz2; cases hz2
      have hzx : z = (y0, y1, y2) := by rw [HX.out] at hz2; injection hz2 with hz2; exact hz2.symm
      subst hzx
      simp only
      clear hz2
      obtain ⟨w9, hw9⟩ : ∃ w9, w9 = w8.alloc (Obj.cells #[.int .i64 y0, .int .i64 y1, .int .i64 y2] 33) := ⟨_, rfl⟩
      have b9 := hid (show Below w8.heap.size w8 w9 by rw [hw9]; (repeat (first | exact Below.refl _ _ | assumption | refine below_drewN ?_ _ | refine Below.drew ?_ | refine Below.alloc ?_ (by (try simp); (try omega)) _ | refine Below.setCell ?_ (by (try simp); (try omega)) _)))
      have Y9 := hid (show Blk w9 w8.heap.size 33 #[.int .i64 y0, .int .i64 y1, .int .i64 y2] by rw [hw9]; exact Blk.new w8 _ _)
      have BB9 := hid (BB8.out.trans (b9.out.mono BB8.out.size))
      replace c1 := (bcell b9.out _ _ hz8).trans c1
      replace c2 := (bcell b9.out _ _ hz8).trans c2
      replace c3 := (bcell b9.out _ _ hz8).trans c3
      have d0 := Y9.out.cell 0; have d1 := Y9.out.cell 1; have d2 := Y9.out.cell 2; have yz := Y9.out.lt
      simp at d0 d1 d2
      go_upto_region 15 with fail
      rw [← hw9]
      clear hw9 b9 BB8 hz8
      generalize w8.heap.size = yb at *
      have hnq := HNQ.out y0 y1 y2
      as_aux_lemma =>
        refine wpIn_wide.1 (wpIn_region_S (n := 0) (fun wq => wq.cell? ⟨yb, 0, none⟩ = some (.int .i64 y0) ∧ wq.cell? ⟨yb, 1, none⟩ = some (.int .i64 y1) ∧ wq.cell? ⟨yb, 2, none⟩ = some (.int .i64 y2) ∧ wq.cell? ⟨b, off + i * 3, none⟩ = some (.int .i64 y0) ∧ wq.cell? ⟨b, off + i * 3 + 1, none⟩ = some (.int .i64 y1) ∧ wq.cell? ⟨b, off + i * 3 + 2, none⟩ = some (.int .i64 y2)) [] (by kernel_rfl) ⟨d0, d1, d2, c1, c2, c3⟩ (fun hHeld => ?_))
        refine wpAnyG_pure 0 (v := ?_) (fun _ => trivial) (by simp only [List.getElem?_toArray, List.getElem?_cons_succ, List.getElem?_cons_zero]; rfl) (by kernel_rfl) (fun _ _ _ _ _ h => h) ⟨(by rfl), (by intro c h; cases h), ?_⟩ hHeld ?_
        rotate_left
        focus (intro wS hSw; (try replace hSw := HSF.out wS hSw); (try dsimp only at hSw); go_simp; (try with_reducible rfl))
        (try simp only [Act.put, List.setIfInBounds_toArray, List.set_cons_zero, List.set_cons_succ])
        refine wpAnyG_pure 1 (v := ?_) (fun _ => trivial) (by simp only [List.getElem?_toArray, List.getElem?_cons_succ, List.getElem?_cons_zero]; rfl) (by kernel_rfl) (fun _ _ _ _ _ h => h) ⟨(by rfl), (by intro c h; cases h), ?_⟩ hHeld ?_
        rotate_left
        focus (intro wS hSw; (try replace hSw := HSF.out wS hSw); (try dsimp only at hSw); go_simp; (try with_reducible rfl))
        (try simp only [Act.put, List.setIfInBounds_toArray, List.set_cons_zero, List.set_cons_succ])
        refine wpAnyG_pure 2 (v := ?_) (fun _ => trivial) (by simp only [List.getElem?_toArray, List.getElem?_cons_succ, List.getElem?_cons_zero]; rfl) (by kernel_rfl) (fun _ _ _ _ _ h => h) ⟨(by rfl), (by intro c h; cases h), ?_⟩ hHeld ?_
        rotate_left
        focus (intro wS hSw; (try replace hSw := HSF.out wS hSw); (try dsimp only at hSw); go_simp; (try with_reducible rfl))
        (try simp only [Act.put, List.setIfInBounds_toArray, List.set_cons_zero, List.set_cons_succ])
        refine wpAnyG_take 3 (v := ?_) (fun _ => trivial) (by simp only [List.getElem?_toArray, List.getElem?_cons_succ, List.getElem?_cons_zero]; rfl) (by kernel_rfl) (fun _ _ _ _ _ h => h) ⟨(by rfl), (by intro c h; cases h), ?_⟩ hHeld ?_
        rotate_left
        focus (intro wS hSw; (try replace hSw := HSF.out wS hSw); (try dsimp only at hSw); go_simp; (try with_reducible rfl))
        (try simp only [Act.put, List.setIfInBounds_toArray, List.set_cons_zero, List.set_cons_succ])
        refine wpAnyG_pure 4 (v := ?_) (fun _ => trivial) (by simp only [List.getElem?_toArray, List.getElem?_cons_succ, List.getElem?_cons_zero]; rfl) (by kernel_rfl) (fun _ _ _ _ _ h => h) ⟨(by rfl), (by intro c h; cases h), ?_⟩ hHeld ?_
        rotate_left
        focus (intro wS hSw; (try replace hSw := HSF.out wS hSw); (try dsimp only at hSw); go_simp; (try with_reducible rfl))
        (try simp only [Act.put, List.setIfInBounds_toArray, List.set_cons_zero, List.set_cons_succ])
        refine wpAnyG_pure 5 (v := ?_) (fun _ => trivial) (by simp only [List.getElem?_toArray, List.getElem?_cons_succ, List.getElem?_cons_zero]; rfl) (by kernel_rfl) (fun _ _ _ _ _ h => h) ⟨(by rfl), (by intro c h; cases h), ?_⟩ hHeld ?_
        rotate_left
        focus (intro wS hSw; (try replace hSw := HSF.out wS hSw); (try dsimp only at hSw); go_simp; (try with_reducible rfl))
        (try simp only [Act.put, List.setIfInBounds_toArray, List.set_cons_zero, List.set_cons_succ])
        refine wpAnyG_pure 6 (v := ?_) (fun _ => trivial) (by simp only [List.getElem?_toArray, List.getElem?_cons_succ, List.getElem?_cons_zero]; rfl) (by kernel_rfl) (fun _ _ _ _ _ h => h) ⟨(by rfl), (by intro c h; cases h), ?_⟩ hHeld ?_
        rotate_left
        focus (intro wS hSw; (try replace hSw := HSF.out wS hSw); (try dsimp only at hSw); go_simp; (try with_reducible rfl))
        (try simp only [Act.put, List.setIfInBounds_toArray, List.set_cons_zero, List.set_cons_succ])
        refine wpAnyG_take 7 (v := ?_) (fun _ => trivial) (by simp only [List.getElem?_toArray, List.getElem?_cons_succ, List.getElem?_cons_zero]; rfl) (by kernel_rfl) (fun _ _ _ _ _ h => h) ⟨(by rfl), (by intro c h; cases h), ?_⟩ hHeld ?_
        rotate_left
        focus (intro wS hSw; (try replace hSw := HSF.out wS hSw); (try dsimp only at hSw); go_simp; (try with_reducible rfl))
        (try simp only [Act.put, List.setIfInBounds_toArray, List.set_cons_zero, List.set_cons_succ])
        refine wpAnyG_pure 8 (v := ?_) (fun _ => trivial) (by simp only [List.getElem?_toArray, List.getElem?_cons_succ, List.getElem?_cons_zero]; rfl) (by kernel_rfl) (fun _ _ _ _ _ h => h) ⟨(by rfl), (by intro c h; cases h), ?_⟩ hHeld ?_
        rotate_left
        focus (intro wS hSw; (try replace hSw := HSF.out wS hSw); (try dsimp only at hSw); go_simp; (try with_reducible rfl))
        (try simp only [Act.put, List.setIfInBounds_toArray, List.set_cons_zero, List.set_cons_succ])
        refine wpAnyG_pure 9 (v := ?_) (fun _ => trivial) (by simp only [List.getElem?_toArray, List.getElem?_cons_succ, List.getElem?_cons_zero]; rfl) (by kernel_rfl) (fun _ _ _ _ _ h => h) ⟨(by rfl), (by intro c h; cases h), ?_⟩ hHeld ?_
        rotate_left
        focus (intro wS hSw; (try replace hSw := HSF.out wS hSw); (try dsimp only at hSw); go_simp; (try with_reducible rfl))
        (try simp only [Act.put, List.setIfInBounds_toArray, List.set_cons_zero, List.set_cons_succ])
        refine wpAnyS_done (by kernel_rfl) ?_
        clear hHeld
        go_wp2_with fail
        go_roundw
        case rel => exact ⟨i + 1, by omega, by go_num, BB9.out.drew⟩
        case measure => simp [intOf]; omega
    obtain rfl : i = l.length := by omega
    have HLAS := hid hlc
    have x0 := XR.out.cell 0; have x1 := XR.out.cell 1; have xz := XR.out.lt
    simp at x0 x1
    have HC := hid (HCK.out wr BR.out A5 c5 l (by omega) SR.out)
    go_wp2_with fail
    refine HC.out.mono ?_
    rintro e w10 ⟨k10, cc10, rfl, hck, hB⟩
    obtain ⟨rfl, rfl⟩ := hck.all HLA.out HLG.out
    have B10 := hid (BR.out.trans (hB.mono BR.out.size))
    have X10 := hid (XR.out.below hB XR.out.lt)
    have S10 := hid ((SR.out.below hB).more hB.size)
    clear hB HC BR XR SR x0 x1 xz hck HB S7 X7 B7 HRW HNQ HMEM hi hil
    have HF1 := hid (fun (W : World) (hW : Below w10.heap.size w10 W) => HFO.out W (B10.out.trans (hW.mono B10.out.size)) A5 c5 l (by omega) HLA.out ((S10.out.below hW).more hW.size))
    rw [HFL.out] at HF1
    have HF2 := hid (fun (W : World) (hW : Below w10.heap.size w10 W) => HFO.out W (B10.out.trans (hW.mono B10.out.size)) B c rows (by omega) HASC.out ((HR.out.below (B10.out.trans (hW.mono B10.out.size))).more (B10.out.trans (hW.mono B10.out.size)).size))
    have HFI := hid (fol_i64 HRT.out HOK.out.s rows pos ans)
    generalize folL g rows pos ans = fl at *
    clear HFL HFO
    have x0 := X10.out.cell 0; have x1 := X10.out.cell 1; have xz := X10.out.lt
    simp at x0 x1
    have HSF := hid (fun (wq : World) (hq : Below w10.heap.size w10 wq) => And.intro ((bcell hq _ _ xz).trans x0) ((bcell hq _ _ xz).trans x1))
    have BD := hid ((Below.refl w10.heap.size w10).drew)
    go_upto_region 18 with fail
    refine wpIn_wide.1 (wpIn_region_S (n := 0) (fun wq => Below w10.heap.size w10 wq) [] (by kernel_rfl) BD.out (fun hHeld => ?_))
    generalize w10.drew = wd10 at *
    refine wpAnyG_pure 0 (v := ?_) (fun _ => trivial) (by simp only [List.getElem?_toArray, List.getElem?_cons_succ, List.getElem?_cons_zero]; rfl) (by kernel_rfl) (fun _ _ _ _ _ h => h) ⟨(by rfl), (by intro c h; cases h), ?_⟩ hHeld ?_
    rotate_left
    focus (intro wS hSw; (try replace hSw := HSF.out wS hSw); (try dsimp only at hSw); go_simp; (try with_reducible rfl))
    (try simp only [Act.put, List.setIfInBounds_toArray, List.set_cons_zero, List.set_cons_succ])
    refine wpAnyG_pure 1 (v := ?_) (fun _ => trivial) (by simp only [List.getElem?_toArray, List.getElem?_cons_succ, List.getElem?_cons_zero]; rfl) (by kernel_rfl) (fun _ _ _ _ _ h => h) ⟨(by rfl), (by intro c h; cases h), ?_⟩ hHeld ?_
    rotate_left
    focus (intro wS hSw; (try replace hSw := HSF.out wS hSw); (try dsimp only at hSw); go_simp; (try with_reducible rfl))
    (try simp only [Act.put, List.setIfInBounds_toArray, List.set_cons_zero, List.set_cons_succ])
    refine wpAnyG_pure 2 (v := ?_) (fun _ => trivial) (by simp only [List.getElem?_toArray, List.getElem?_cons_succ, List.getElem?_cons_zero]; rfl) (by kernel_rfl) (fun _ _ _ _ _ h => h) ⟨(by rfl), (by intro c h; cases h), ?_⟩ hHeld ?_
    rotate_left
    focus (intro wS hSw; (try replace hSw := HSF.out wS hSw); (try dsimp only at hSw); go_simp; (try with_reducible rfl))
    (try simp only [Act.put, List.setIfInBounds_toArray, List.set_cons_zero, List.set_cons_succ])
    refine wpAnyG_take 3 (v := ?_) (fun _ => trivial) (by simp only [List.getElem?_toArray, List.getElem?_cons_succ, List.getElem?_cons_zero]; rfl) (by kernel_rfl) (fun _ _ _ _ _ h => h) ⟨(by rfl), (by intro c h; cases h), ?_⟩ hHeld ?_
    rotate_left
    focus (intro wS hSw; (try replace hSw := HSF.out wS hSw); (try dsimp only at hSw); go_simp; (try with_reducible rfl))
    (try simp only [Act.put, List.setIfInBounds_toArray, List.set_cons_zero, List.set_cons_succ])
    refine wpAnyG_pure 4 (v := ?_) (fun _ => trivial) (by simp only [List.getElem?_toArray, List.getElem?_cons_succ, List.getElem?_cons_zero]; rfl) (by kernel_rfl) (fun _ _ _ _ _ h => h) ⟨(by rfl), (by intro c h; cases h), ?_⟩ hHeld ?_
    rotate_left
    focus (intro wS hSw; (try replace hSw := HSF.out wS hSw); (try dsimp only at hSw); go_simp; (try with_reducible rfl))
    (try simp only [Act.put, List.setIfInBounds_toArray, List.set_cons_zero, List.set_cons_succ])
    refine wpAnyG_pure 5 (v := ?_) (fun _ => trivial) (by simp only [List.getElem?_toArray, List.getElem?_cons_succ, List.getElem?_cons_zero]; rfl) (by kernel_rfl) (fun _ _ _ _ _ h => h) ⟨(by rfl), (by intro c h; cases h), ?_⟩ hHeld ?_
    rotate_left
    focus (intro wS hSw; (try replace hSw := HSF.out wS hSw); (try dsimp only at hSw); go_simp; (try with_reducible rfl))
    (try simp only [Act.put, List.setIfInBounds_toArray, List.set_cons_zero, List.set_cons_succ])
    refine wpAnyG_pure 6 (v := ?_) (fun _ => trivial) (by simp only [List.getElem?_toArray, List.getElem?_cons_succ, List.getElem?_cons_zero]; rfl) (by kernel_rfl) (fun _ _ _ _ _ h => h) ⟨(by rfl), (by intro c h; cases h), ?_⟩ hHeld ?_
    rotate_left
    focus (intro wS hSw; (try replace hSw := HSF.out wS hSw); (try dsimp only at hSw); go_simp; (try with_reducible rfl))
    (try simp only [Act.put, List.setIfInBounds_toArray, List.set_cons_zero, List.set_cons_succ])
    refine wpAnyG_take 8 (v := ?_) (fun _ => trivial) (by simp only [List.getElem?_toArray, List.getElem?_cons_succ, List.getElem?_cons_zero]; rfl) (by kernel_rfl) (fun _ _ _ _ _ h => h) ⟨(by rfl), (by intro c h; cases h), ?_⟩ hHeld ?_
    rotate_left
    focus (intro wS hSw; (try replace hSw := HSF.out wS hSw); (try dsimp only at hSw); go_simp; (try with_reducible rfl))
    (try simp only [Act.put, List.setIfInBounds_toArray, List.set_cons_zero, List.set_cons_succ])
    refine wpAnyG_pure 9 (v := ?_) (fun _ => trivial) (by simp only [List.getElem?_toArray, List.getElem?_cons_succ, List.getElem?_cons_zero]; rfl) (by kernel_rfl) (fun _ _ _ _ _ h => h) ⟨(by rfl), (by intro c h; cases h), ?_⟩ hHeld ?_
    rotate_left
    focus (intro wS hSw; (try replace hSw := HSF.out wS hSw); (try dsimp only at hSw); go_simp; (try with_reducible rfl))
    (try simp only [Act.put, List.setIfInBounds_toArray, List.set_cons_zero, List.set_cons_succ])
    refine wpAnyG_pure 10 (v := ?_) (fun _ => trivial) (by simp only [List.getElem?_toArray, List.getElem?_cons_succ, List.getElem?_cons_zero]; rfl) (by kernel_rfl) (fun _ _ _ _ _ h => h) ⟨(by rfl), (by intro c h; cases h), ?_⟩ hHeld ?_
    rotate_left
    focus (intro wS hSw; (try replace hSw := HSF.out wS hSw); (try dsimp only at hSw); go_simp; (try with_reducible rfl))
    (try simp only [Act.put, List.setIfInBounds_toArray, List.set_cons_zero, List.set_cons_succ])
    refine wpAnyG_pure 11 (v := ?_) (fun _ => trivial) (by simp only [List.getElem?_toArray, List.getElem?_cons_succ, List.getElem?_cons_zero]; rfl) (by kernel_rfl) (fun _ _ _ _ _ h => h) ⟨(by rfl), (by intro c h; cases h), ?_⟩ hHeld ?_
    rotate_left
    focus (intro wS hSw; (try replace hSw := HSF.out wS hSw); (try dsimp only at hSw); go_simp; (try with_reducible rfl))
    (try simp only [Act.put, List.setIfInBounds_toArray, List.set_cons_zero, List.set_cons_succ])
    have HC1 := hid (HF1.out _ BD.out)
    refine wpAnyS_ready [7] (by kernel_rfl) (by simp) (AllReadyS.consG (by simp only [List.getElem?_toArray, List.getElem?_cons_succ, List.getElem?_cons_zero]; rfl) (by rfl) (fun K hK => ?_) AllReadyS.nil)
    refine callV (by intro c h; cases h) (by go_simp; try with_reducible rfl) HC1.out ?_
    intro v1 w11 hx
    obtain ⟨ho11, hB11⟩ := hx
    have B11 := hid (BD.out.trans (hB11.mono BD.out.size))
    have O11 := hid ho11
    refine hK.out _ _ B11.out ?_
    (try simp only [Act.put, List.setIfInBounds_toArray, List.set_cons_zero, List.set_cons_succ])
    clear hK K ho11 hB11 hHeld HC1
    have hHeld := B11.out
    have HC2 := hid (HF2.out _ B11.out)
    refine wpAnyS_ready [12] (by kernel_rfl) (by simp) (AllReadyS.consG (by simp only [List.getElem?_toArray, List.getElem?_cons_succ, List.getElem?_cons_zero]; rfl) (by rfl) (fun K hK => ?_) AllReadyS.nil)
    refine callV (by intro c h; cases h) (by go_simp; try with_reducible rfl) HC2.out ?_
    intro v2 w12 hx
    obtain ⟨ho12, hB12⟩ := hx
    have B12 := hid (B11.out.trans (hB12.mono B11.out.size))
    have O12 := hid (show OwnI w12 wd10.heap.size v1 fl from O11.out.below hB12)
    have P12 := hid ho12
    refine hK.out _ _ B12.out ?_
    (try simp only [Act.put, List.setIfInBounds_toArray, List.set_cons_zero, List.set_cons_succ])
    clear hK K ho12 hB12 hHeld HC2 O11 B11
    have hHeld := B12.out
    obtain ⟨A1, c1, rfl, hq1, hq2, s1⟩ := O12.out.slr HFI.out
    obtain ⟨A2, c2, rfl, -, -, s2⟩ := P12.out.slr HFI.out
    have HSA := hid (sameI_any A1 A2 c1 c2 fl fl w12 (by omega) (by omega) s1 s2)
    rw [show decide (fl = fl) = true from decide_eq_true rfl] at HSA
    clear s1 s2 hq1 hq2 O12 P12
    refine wpAnyS_ready [13] (by kernel_rfl) (by simp) (AllReadyS.consG (by simp only [List.getElem?_toArray, List.getElem?_cons_succ, List.getElem?_cons_zero]; rfl) (by rfl) (fun K hK => ?_) AllReadyS.nil)
    refine callS (by intro c h; cases h) (by go_simp; try with_reducible rfl) HSA.out ?_
    intro w13 hBq
    have B13q := hid (B12.out.trans (hBq.mono B12.out.size))
    refine hK.out _ _ B13q.out ?_
    (try simp only [Act.put, List.setIfInBounds_toArray, List.set_cons_zero, List.set_cons_succ])
    clear hK K hBq
    clear hHeld
    have hHeld := B13q.out
    refine wpAnyG_pure 14 (v := ?_) (fun _ => trivial) (by simp only [List.getElem?_toArray, List.getElem?_cons_succ, List.getElem?_cons_zero]; rfl) (by kernel_rfl) (fun _ _ _ _ _ h => h) ⟨(by rfl), (by intro c h; cases h), ?_⟩ hHeld ?_
    rotate_left
    focus (intro wS hSw; (try replace hSw := HSF.out wS hSw); (try dsimp only at hSw); go_simp; (try with_reducible rfl))
    (try simp only [Act.put, List.setIfInBounds_toArray, List.set_cons_zero, List.set_cons_succ])
    refine wpAnyG_pure 15 (v := ?_) (fun _ => trivial) (by simp only [List.getElem?_toArray, List.getElem?_cons_succ, List.getElem?_cons_zero]; rfl) (by kernel_rfl) (fun _ _ _ _ _ h => h) ⟨(by rfl), (by intro c h; cases h), ?_⟩ hHeld ?_
    rotate_left
    focus (intro wS hSw; (try replace hSw := HSF.out wS hSw); (try dsimp only at hSw); go_simp; (try with_reducible rfl))
    (try simp only [Act.put, List.setIfInBounds_toArray, List.set_cons_zero, List.set_cons_succ])
    refine wpAnyS_done (by kernel_rfl) ?_
    have B13 := hid (B10.out.trans (B13q.out.mono B10.out.size))
    have X13 := hid (X10.out.below B13q.out X10.out.lt)
    have S13 := hid ((S10.out.below B13q.out).more B13q.out.size)
    clear hHeld HSF BD B12 B13q B10 X10 S10 HSA HF1 HF2 HFI x0 x1 xz
    by_cases ha0 : at_ < 0
    case pos =>
      as_aux_lemma =>
        go_wp2_with fail
        go_ret
        exact ⟨rfl, B13.out⟩
    obtain ⟨i, rfl⟩ := Int.eq_ofNat_of_zero_le (show 0 ≤ at_ by omega)
    by_cases hil : i < l.length
    case neg =>
      have hilI : (l.length : Int) ≤ i := by omega
      as_aux_lemma =>
        go_wp2_with fail
        go_ret
        exact ⟨rfl, B13.out⟩
    have hilI : ¬ (l.length : Int) ≤ i := by omega
    have hilJ : (i : Int) < l.length := by omega
    have HLI := hid (HLE.out i hil)
    obtain ⟨b, off, rfl, hbz, e1, -, -, -⟩ := S13.out.row hil
    generalize l[i].1 = lp at *
    by_cases hlp : lp = pos
    · subst hlp
      as_aux_lemma =>
        go_wp2_with fail
        go_ret
        exact ⟨rfl, B13.out⟩
    have hlp1 : (lp == pos) = false := by simpa using hlp
    have hi1 : IntKind.i64.wrap ((i : Int) + 1) = (i : Int) + 1 := IntWalk.i64_in _ (by omega)
    have hi1a : 0 ≤ (i : Int) + 1 := by omega
    have hi2 : (i : Int) ≤ l.length := by omega
    have hi3 : 0 ≤ (i : Int) := by omega
    have hi4 : (i : Int) ≤ c5 := by omega
    have hi5 : (i : Int) + 1 ≤ l.length := by omega
    have HGL := hid (fun (W : World) (hW : Below w13.heap.size w13 W) => show SlR W W.heap.size (some ⟨b, off, none⟩) l from (S13.out.below hW).more hW.size)
    have b14d := hid (show Below w13.heap.size w13 w13.drew from (Below.refl _ _).drew)
    go_upto_region 24 with fail
    refine wpIn_wide.1 (wpIn_region_S (n := 0) (fun _ => True) [] (by kernel_rfl) trivial (fun hHeld => ?_))
    generalize w13.drew = wd14 at *
    have B14d := hid (B13.out.trans (b14d.out.mono B13.out.size))
    have X14d := hid (X13.out.below b14d.out X13.out.lt)
    clear X13 B13
    refine wpAnyG_pure 1 (v := ?_) (fun _ => trivial) (by simp only [List.getElem?_toArray, List.getElem?_cons_succ, List.getElem?_cons_zero]; rfl) (by kernel_rfl) (fun _ _ _ _ _ h => h) ⟨(by rfl), (by intro c h; cases h), ?_⟩ hHeld ?_
    rotate_left
    focus (intro wS hSw; (try replace hSw := HSF.out wS hSw); (try dsimp only at hSw); go_simp; (try with_reducible rfl))
    (try simp only [Act.put, List.setIfInBounds_toArray, List.set_cons_zero, List.set_cons_succ])
    refine wpAnyG_pure 2 (v := ?_) (fun _ => trivial) (by simp only [List.getElem?_toArray, List.getElem?_cons_succ, List.getElem?_cons_zero]; rfl) (by kernel_rfl) (fun _ _ _ _ _ h => h) ⟨(by rfl), (by intro c h; cases h), ?_⟩ hHeld ?_
    rotate_left
    focus (intro wS hSw; (try replace hSw := HSF.out wS hSw); (try dsimp only at hSw); go_simp; (try with_reducible rfl))
    (try simp only [Act.put, List.setIfInBounds_toArray, List.set_cons_zero, List.set_cons_succ])
    refine wpAnyG_pure 3 (v := ?_) (fun _ => trivial) (by simp only [List.getElem?_toArray, List.getElem?_cons_succ, List.getElem?_cons_zero]; rfl) (by kernel_rfl) (fun _ _ _ _ _ h => h) ⟨(by rfl), (by intro c h; cases h), ?_⟩ hHeld ?_
    rotate_left
    focus (intro wS hSw; (try replace hSw := HSF.out wS hSw); (try dsimp only at hSw); go_simp; (try with_reducible rfl))
    (try simp only [Act.put, List.setIfInBounds_toArray, List.set_cons_zero, List.set_cons_succ])
    refine wpAnyG_pure 5 (v := ?_) (fun _ => trivial) (by simp only [List.getElem?_toArray, List.getElem?_cons_succ, List.getElem?_cons_zero]; rfl) (by kernel_rfl) (fun _ _ _ _ _ h => h) ⟨(by rfl), (by intro c h; cases h), ?_⟩ hHeld ?_
    rotate_left
    focus (intro wS hSw; (try replace hSw := HSF.out wS hSw); (try dsimp only at hSw); go_simp; (try with_reducible rfl))
    (try simp only [Act.put, List.setIfInBounds_toArray, List.set_cons_zero, List.set_cons_succ])
    refine wpAnyG_pure 6 (v := ?_) (fun _ => trivial) (by simp only [List.getElem?_toArray, List.getElem?_cons_succ, List.getElem?_cons_zero]; rfl) (by kernel_rfl) (fun _ _ _ _ _ h => h) ⟨(by rfl), (by intro c h; cases h), ?_⟩ hHeld ?_
    rotate_left
    focus (intro wS hSw; (try replace hSw := HSF.out wS hSw); (try dsimp only at hSw); go_simp; (try with_reducible rfl))
    (try simp only [Act.put, List.setIfInBounds_toArray, List.set_cons_zero, List.set_cons_succ])
    refine wpAnyG_pure 7 (v := ?_) (fun _ => trivial) (by simp only [List.getElem?_toArray, List.getElem?_cons_succ, List.getElem?_cons_zero]; rfl) (by kernel_rfl) (fun _ _ _ _ _ h => h) ⟨(by rfl), (by intro c h; cases h), ?_⟩ hHeld ?_
    rotate_left
    focus (intro wS hSw; (try replace hSw := HSF.out wS hSw); (try dsimp only at hSw); go_simp; (try with_reducible rfl))
    (try simp only [Act.put, List.setIfInBounds_toArray, List.set_cons_zero, List.set_cons_succ])
    refine wpAnyG_pure 8 (v := ?_) (fun _ => trivial) (by simp only [List.getElem?_toArray, List.getElem?_cons_succ, List.getElem?_cons_zero]; rfl) (by kernel_rfl) (fun _ _ _ _ _ h => h) ⟨(by rfl), (by intro c h; cases h), ?_⟩ hHeld ?_
    rotate_left
    focus (intro wS hSw; (try replace hSw := HSF.out wS hSw); (try dsimp only at hSw); go_simp; (try with_reducible rfl))
    (try simp only [Act.put, List.setIfInBounds_toArray, List.set_cons_zero, List.set_cons_succ])
    refine wpAnyS_ready [0] (by kernel_rfl) (by simp) (AllReadyS.cons (by simp only [List.getElem?_toArray, List.getElem?_cons_succ, List.getElem?_cons_zero]; rfl) rfl (fun K hK => ?_) AllReadyS.nil)
    go_simp
    have b14e := hid (show Below wd14.heap.size wd14 (wd14.alloc (Obj.cells #[] 33)) by (repeat (first | exact Below.refl _ _ | assumption | refine below_drewN ?_ _ | refine Below.drew ?_ | refine Below.alloc ?_ (by (try simp); (try omega)) _ | refine Below.setCell ?_ (by (try simp); (try omega)) _)))
    have O14e := hid (own_empty wd14)
    have S14e := hid (slr_take (HGL.out _ (b14d.out.trans (b14e.out.mono b14d.out.size))) i)
    have hT := hid (show (l.take i).length = i by rw [List.length_take]; omega)
    obtain ⟨T14, hTT⟩ : ∃ T, T = l.take i := ⟨_, rfl⟩
    rw [← hTT] at hT S14e
    have HTT14 := hid hTT
    clear hTT
    refine hK.out _ _ trivial ?_
    clear hK K
    (try simp only [Act.put, List.setIfInBounds_toArray, List.set_cons_zero, List.set_cons_succ])
    refine wpAnyS_ready [4] (by kernel_rfl) (by simp) (AllReadyS.cons (by simp only [List.getElem?_toArray, List.getElem?_cons_succ, List.getElem?_cons_zero]; rfl) rfl (fun K hK => ?_) AllReadyS.nil)
    refine rwRK.appS (fun _ => trivial) (.tmp 125) (.tmp 128) rfl rfl O14e.out (ys := T14) (c := c5) (by rw [hT.out]; rfl) S14e.out (by have := hT.out; simp; omega) b14e.out.size ?_
    intro A14f c14f w14f ho hg
    have O14f := hid (show rwRK.Own w14f wd14.heap.size (.slice A14f T14.length c14f) T14 by simpa using ho)
    have b14f := hid (b14e.out.grown hg b14e.out.size (fun q e => (own_blk O14e.out q e).1))
    rw [List.length_nil, Nat.zero_add]
    have S14f := hid (slr_last (HGL.out _ (b14d.out.trans (b14f.out.mono b14d.out.size))) hlc (by omega))
    have hD := hid (show (l.drop (i + 1)).length = l.length - (i + 1) by rw [List.length_drop])
    obtain ⟨D14, hDD⟩ : ∃ D, D = l.drop (i + 1) := ⟨_, rfl⟩
    rw [← hDD] at hD S14f
    have HDD14 := hid hDD
    clear hDD
    refine hK.out _ _ trivial ?_
    clear hK K ho hg O14e S14e
    (try simp only [Act.put, List.setIfInBounds_toArray, List.set_cons_zero, List.set_cons_succ])
    refine wpAnyS_ready [9] (by kernel_rfl) (by simp) (AllReadyS.cons (by simp only [List.getElem?_toArray, List.getElem?_cons_succ, List.getElem?_cons_zero]; rfl) rfl (fun K hK => ?_) AllReadyS.nil)
    refine rwRK.appS (fun _ => trivial) (.tmp 129) (.tmp 133) rfl rfl O14f.out (ys := D14) (c := c5 - (i + 1)) (by rw [hD.out]; rfl) S14f.out (by have := hT.out; have := hD.out; omega) b14f.out.size ?_
    intro A14 c14 w14 ho hg
    have O14 := hid ho
    have b14 := hid (b14f.out.grown hg b14f.out.size (fun q e => (own_blk O14f.out q e).1))
    refine hK.out _ _ trivial ?_
    clear hK K ho hg O14f S14f b14e b14f hHeld
    (try simp only [Act.put, List.setIfInBounds_toArray, List.set_cons_zero, List.set_cons_succ])
    have hHeld : True := trivial
    refine wpAnyG_pure 10 (v := ?_) (fun _ => trivial) (by simp only [List.getElem?_toArray, List.getElem?_cons_succ, List.getElem?_cons_zero]; rfl) (by kernel_rfl) (fun _ _ _ _ _ h => h) ⟨(by rfl), (by intro c h; cases h), ?_⟩ hHeld ?_
    rotate_left
    focus (intro wS hSw; (try replace hSw := HSF.out wS hSw); (try dsimp only at hSw); go_simp; (try with_reducible rfl))
    (try simp only [Act.put, List.setIfInBounds_toArray, List.set_cons_zero, List.set_cons_succ])
    refine wpAnyS_done (by kernel_rfl) ?_
    generalize (if c5 = i + 1 then some (⟨b, off, none⟩ : Addr) else some ⟨b, off + (i + 1) * 3, none⟩) = aq14 at *
    clear hHeld
    have B14 := hid (B14d.out.trans (b14.out.mono B14d.out.size))
    have X14 := hid (X14d.out.below b14.out X14d.out.lt)
    have hall14 : ∀ x ∈ T14 ++ D14, rwRK.ok x := fun x hx => by
      rw [HTT14.out, HDD14.out] at hx
      rcases List.mem_append.1 hx with hx | hx
      · exact HLO.out x (List.mem_of_mem_take hx)
      · exact HLO.out x (List.mem_of_mem_drop hx)
    obtain ⟨A14x, c14x, hv, -, -, hs⟩ := RK.Own.slr O14.out hall14
    injection hv with hv hv2 hv3
    subst hv hv3
    clear hv2
    have HC := hid (HCK.out w14 B14.out A14 c14 (T14 ++ D14) (by rw [List.length_append]; have := hT.out; have := hD.out; omega) hs)
    rw [List.length_append] at HC
    have HTL14 := hid hT.out; have HDL14 := hid hD.out
    have x0 := X14.out.cell 0; have x1 := X14.out.cell 1; have xz := X14.out.lt
    simp at x0 x1
    clear hs O14 b14 hall14 hT hD B14d X14d
    go_wp2_with fail
    refine HC.out.mono ?_
    rintro e w15 ⟨k15, cc15, rfl, hck, hB⟩
    have B15 := hid (B14.out.trans (hB.mono B14.out.size))
    rw [HTT14.out, HDD14.out] at hck
    obtain rfl := HLI.out hlp _ _ hck
    clear hB HC B14 X14 x0 x1 xz hck
    as_aux_lemma =>
      go_wp2_with fail
      go_ret
      exact ⟨rfl, B15.out⟩
end Go.Proofs.Ytdjjhflhdhihcaa
