
/- Stock: Pick. -/
import Derived.Test.YtfpehakllnkaeaaGreatDoorStkM
set_option linter.unusedSimpArgs false
set_option linter.unusedVariables false
namespace Go.Proofs.YtfpehakllnkaeaaGreatDoor
open Go.RowKit Go.IntWalk

theorem callP1 (args : Array Value) (w : World) : (callFunc 62 args).run Tryz.prog w = .ok (.enter 62 args) w := by kernel_rfl
theorem callP2 (args : Array Value) (w : World) : (callFunc 63 args).run Tryz.prog w = .ok (.enter 63 args) w := by kernel_rfl
set_option maxRecDepth 100000 in
theorem pick1_any (x : Tk) (A : Option Addr) (n c q : Nat) (w : World) (hn : n ≤ maxLen) (hz : q < w.heap.size) (hc : w.cell? ⟨q, 0, none⟩ = some (.slice A n c)) :
    Calls Tryz.prog 62 #[.agg #[.int .i64 x.1, .int .i64 x.2], .pointer (some ⟨q, 0, none⟩)] w fun e w' => e = .returned (.bool (!btw x.1 0 ((n : Int) - 1))) ∧ Below w.heap.size w w' := by
  obtain ⟨xa, xb⟩ := x
  unfold maxLen at hn
  have HC := hid (between_any xa 0 ((n : Int) - 1))
  have B1 := hid ((Below.refl w.heap.size w).alloc (Nat.le_refl _) (Obj.cells #[.int .i64 xa, .int .i64 xb] 66))
  have hwr : IntKind.i64.wrap ((n : Int) - 1) = (n : Int) - 1 := IntWalk.i64_in _ (by omega)
  generalize btw xa 0 ((n : Int) - 1) = r at *
  simp only
  go_enter Tryz.func62, Tryz.ntmps62
  go_wp2_with fail
  refine (HC.out _).mono ?_
  rintro e w2 ⟨rfl, hB⟩
  have B2 := hid (B1.out.trans (hB.mono B1.out.size))
  clear hB
  go_wp2_with fail
  go_ret
  exact ⟨rfl, B2.out⟩
set_option maxRecDepth 100000 in
theorem pick2_any (x : Tk) (w : World) : Calls Tryz.prog 63 #[.agg #[.int .i64 x.1, .int .i64 x.2]] w fun e w' => e = .returned (.bool (decide (x.2 < 1))) ∧ Below w.heap.size w w' := by
  obtain ⟨xa, xb⟩ := x
  have B1 := hid ((Below.refl w.heap.size w).alloc (Nat.le_refl _) (Obj.cells #[.int .i64 xa, .int .i64 xb] 66))
  simp only
  go_enter Tryz.func63, Tryz.ntmps63
  go_wp2_with fail
  go_ret
  exact ⟨rfl, B1.out⟩
/-- What Pick does. -/
def pickGo : List Tk → List Bx → Option (List Bx)
  | [], bs => some bs
  | t :: ts, bs => if cntAt bs t.1.toNat < t.2 then none else pickGo ts (subAt bs t.1.toNat t.2)
def pickL (bs : List Bx) (ts : List Tk) : List Bx × Int :=
  if ts.any (fun x => !btw x.1 0 ((bs.length : Int) - 1)) then ([], 4) else if ts.any (fun x => decide (x.2 < 1)) then ([], 1) else match pickGo ts bs with
    | none => ([], 22)
    | some l => (l, 0)
def PickR (w : World) (bs : List Bx) (ts : List Tk) (e : Ending) (w' : World) : Prop :=
  ∃ (A : Option Addr) (c : Nat), e = .returned (.tuple #[.slice A (pickL bs ts).1.length c, .int .i64 (pickL bs ts).2]) ∧ (pickL bs ts).1.length ≤ maxLen ∧ SlR w' w'.heap.size A (pickL bs ts).1 ∧ Below w.heap.size w w'
set_option maxRecDepth 100000 in
set_option maxHeartbeats 8000000 in
theorem pick_any (B C : Option Addr) (d e0 : Nat) (lots : List Lt) (bs : List Bx) (ts : List Tk) (w : World) (hb : bs.length ≤ 20) (hw : ts.length ≤ 100000) (h2 : SlR w w.heap.size B bs) (h3 : SlR w w.heap.size C ts) (hok : LeftOK lots bs.length bs) :
    Calls Tryz.prog 24 #[.slice B bs.length d, .slice C ts.length e0] w (PickR w bs ts) := by
  have H2 := hid h2; have H3 := hid h3; have HOK := hid hok
  have hmx : bs.length ≤ maxLen ∧ ts.length ≤ maxLen := by unfold maxLen; omega
  have b1 := hid ((Below.refl w.heap.size w).alloc (Nat.le_refl _) (Obj.cells #[.slice B bs.length d] 24))
  have n1 := hid (Blk.new w 24 #[.slice B bs.length d])
  have hz1 := hid (show (w.alloc (Obj.cells #[.slice B bs.length d] 24)).heap.size = w.heap.size + 1 by simp)
  have HC := hid (ctt_any 62 #[.pointer (some ⟨w.heap.size, 0, none⟩)] callP1 C e0 ts (fun x => !btw x.1 0 ((bs.length : Int) - 1)) (w.alloc (Obj.cells #[.slice B bs.length d] 24)) hmx.2 ((h3.below b1.out).more b1.out.size) (fun x W _ hBW => (pick1_any x B bs.length d w.heap.size W hmx.1 (by have := hBW.size; rw [hz1.out] at this; omega) (by have := (n1.out.below hBW n1.out.lt).cell 0; simpa using this)).mono (fun e w' he => ⟨he.1, hBW.trans (he.2.mono hBW.size)⟩)))
  have HD := hid (fun (W : World) (hBW : Below w.heap.size w W) => ctt_any 63 #[] callP2 C e0 ts (fun x => decide (x.2 < 1)) W hmx.2 ((h3.below hBW).more hBW.size) (fun x W' _ hBW' => (pick2_any x W').mono (fun e w' he => ⟨he.1, hBW'.trans (he.2.mono hBW'.size)⟩)))
  clear h2 h3 hok hz1
  go_enter Tryz.func24, Tryz.ntmps24
  go_wp2_with fail
  refine HC.out.mono ?_
  rintro e w2 ⟨rfl, hB2⟩
  have N2 := hid (n1.out.below hB2 n1.out.lt)
  have B2 := hid (b1.out.trans (hB2.mono b1.out.size))
  clear hB2 HC n1 b1
  cases hany : ts.any (fun x => !btw x.1 0 ((bs.length : Int) - 1)) with
  | true =>
    have hp := hid (show pickL bs ts = ([], 4) by unfold pickL; rw [if_pos hany])
    as_aux_lemma =>
      go_wp2_with fail
      refine bodyPost_ret (v := .tuple #[.slice none 0 0, .int .i64 4]) (by simp [results, Tryz.results24, go_sem]) rfl ?_
      exact ⟨none, 0, by rw [hp.out]; rfl, by rw [hp.out]; exact Nat.zero_le _, by rw [hp.out]; exact SlR.nil, B2.out⟩
  | false =>
    have HD2 := hid (HD.out w2 B2.out)
    have HANY := hid hany
    clear hany HD
    go_wp2_with fail
    refine HD2.out.mono ?_
    rintro e w3 ⟨rfl, hB3⟩
    have N3 := hid (N2.out.below hB3 N2.out.lt)
    have B3 := hid (B2.out.trans (hB3.mono B2.out.size))
    clear hB3 HD2 N2 B2
    cases hany : ts.any (fun x => decide (x.2 < 1)) with
    | true =>
      have hp := hid (show pickL bs ts = ([], 1) by unfold pickL; rw [if_neg (by rw [HANY.out]; simp), if_pos hany])
      as_aux_lemma =>
        go_wp2_with fail
        refine bodyPost_ret (v := .tuple #[.slice none 0 0, .int .i64 1]) (by simp [results, Tryz.results24, go_sem]) rfl ?_
        exact ⟨none, 0, by rw [hp.out]; rfl, by rw [hp.out]; exact Nat.zero_le _, by rw [hp.out]; exact SlR.nil, B3.out⟩
    | false =>
      have hpl := hid (show pickL bs ts = match pickGo ts bs with | none => ([], 22) | some l => (l, 0) by unfold pickL; rw [if_neg (by rw [HANY.out]; simp), if_neg (by rw [hany]; simp)])
      have HANZ := hid hany
      clear hany
      have x0 := N3.out.cell 0; have xz := N3.out.lt
      simp at x0
      have HCL := hid (cloneB_any B d bs w3 (by omega) ((H2.out.below B3.out).more B3.out.size))
      go_wp2_with fail
      refine HCL.out.mono ?_
      rintro e w4 ⟨v4, rfl, hO4, hB4⟩
      have X4 := hid (own_base hO4 B3.out.size)
      have B4 := hid (B3.out.trans (hB4.mono B3.out.size))
      clear hO4 hB4 HCL N3 B3 x0 xz
      obtain ⟨AX, cX, rfl⟩ := own_form X4.out
      have X5 := hid (show OwnX w4 w.heap.size (.slice AX bs.length cX) bs from X4.out)
      clear X4
      go_wp2_with fail
      go_loopw [18] (fun iv wr => ∃ (i : Nat) (l : List Bx), i ≤ ts.length ∧ iv = .int .i64 i ∧ OwnX wr w.heap.size (.slice AX bs.length cX) l ∧ pickGo ts bs = pickGo (ts.drop i) l ∧ LeftOK lots bs.length l ∧ Below w.heap.size w wr) (fun iv _ => ts.length - (intOf iv).toNat)
      case atStart => exact ⟨0, bs, by omega, rfl, X5.out, rfl, HOK.out, B4.out⟩
      case round =>
        obtain ⟨i, l, hi, rfl, hX, hS, hL, hB⟩ := hrel
        have HX := hid hX; have HS := hid hS; have HL := hid hL; have HB := hid hB
        clear hX hS hL hB X5 B4
        by_cases hlt : i < ts.length
        case neg =>
          obtain rfl : i = ts.length := by omega
          have hp := hid (show pickL bs ts = (l, 0) by rw [hpl.out, HS.out, List.drop_length]; rfl)
          have hll := HL.out.len
          obtain ⟨A9, c9, h9, _, h91, h92⟩ := HX.out.slr HL.out.i3
          injection h9 with h9 h9b h9c
          subst h9 h9c
          have Q9 := hid h92
          clear h92 hlt hi
          as_aux_lemma =>
            go_wp2_with fail
            refine bodyPost_ret (v := .tuple #[.slice AX bs.length cX, .int .i64 0]) (by simp [results, Tryz.results24, go_sem]) rfl ?_
            exact ⟨AX, cX, by rw [hp.out, hll], by rw [hp.out, hll]; exact hmx.1, by rw [hp.out]; exact Q9.out, HB.out⟩
        have hltI : (i : Int) < ts.length := by omega
        have hdr := hid (show ts.drop i = ts[i] :: ts.drop (i + 1) from List.drop_eq_getElem_cons hlt)
        obtain ⟨b, off, rfl, hbz, c0, c1, -⟩ := H3.out.tk hlt
        replace c0 := (bcell HB.out b _ hbz).trans c0
        replace c1 := (bcell HB.out b _ hbz).trans c1
        have hz : b < wr.heap.size := by have := HB.out.size; omega
        have hin := List.any_eq_false.1 HANY.out _ (List.getElem_mem hlt)
        have hin2 := List.any_eq_false.1 HANZ.out _ (List.getElem_mem hlt)
        generalize ts[i] = x at *
        obtain ⟨xk, xn⟩ := x
        simp only at c0 c1 hin hin2
        simp only [btw, Bool.not_eq_true', Bool.and_eq_false_imp, decide_eq_true_eq, decide_eq_false_iff_not, Int.not_lt, Bool.not_eq_true, Bool.not_eq_false', Bool.and_eq_true] at hin hin2
        have hk : 0 ≤ xk ∧ xk < bs.length := by omega
        obtain ⟨k, rfl⟩ := Int.eq_ofNat_of_zero_le hk.1
        clear hin
        have hkl : k < l.length := by have := HL.out.len; omega
        obtain ⟨g, rfl, hgb, hgz⟩ : ∃ g, AX = some ⟨g, 0, none⟩ ∧ (∃ cs, Blk wr g 45 cs) ∧ w.heap.size ≤ g := by
          rcases HX.out.2 with ⟨hv, h0⟩ | ⟨g, cap, cur, hv, hg, hh, _⟩
          · omega
          · injection hv with hv _ _
            exact ⟨g, hv, ⟨cur, hh⟩, hg⟩
        have HGZ := hid hgz
        have hgl : g < wr.heap.size := by obtain ⟨cs, hc⟩ := hgb; exact hc.lt
        have hcb := HL.out.cnt _ (List.getElem_mem hkl)
        have hca : cntAt l k = l[k].2.1 := by simp [cntAt, hkl]
        have hpk := hid (show pickGo (((k : Int), xn) :: ts.drop (i + 1)) l = if cntAt l k < xn then none else pickGo (ts.drop (i + 1)) (subAt l k xn) from rfl)
        rw [hca] at hpk
        have hsub := hid (fun (h0 : 0 ≤ xn) (h1 : xn ≤ l[k].2.1) => HL.out.sub hkl h0 h1)
        have hset := hid (fun (W : World) (hW : OwnX W w.heap.size (.slice (some ⟨g, 0, none⟩) bs.length cX) l) => show OwnX (W.setCell ⟨g, k * 3 + 1, none⟩ (.int .i64 (l[k].2.1 - xn))) w.heap.size (.slice (some ⟨g, 0, none⟩) bs.length cX) (subAt l k xn) from by rw [subAt_eq hkl]; exact hW.setCnt hkl _)
        have hcl := hid (fun (W : World) (hW : OwnX W w.heap.size (.slice (some ⟨g, 0, none⟩) bs.length cX) l) => (hW.at_ hkl).2.1)
        have hfr := hid (fun (W : World) (hW : OwnX W w.heap.size (.slice (some ⟨g, 0, none⟩) bs.length cX) l) => show g < W.heap.size ∧ W.frozen? ⟨g, k * 3 + 1, none⟩ = false from ⟨(hW.at_ hkl).2.2.2.1, (hW.at_ hkl).2.2.2.2 _⟩)
        generalize l[k].2.1 = cnt at *
        obtain ⟨wa, hwa⟩ : ∃ wa, wa = wr.alloc (Obj.cells #[.int .i64 (k : Int), .int .i64 xn] 66) := ⟨_, rfl⟩
        have b5 := hid (show Below wr.heap.size wr wa by rw [hwa]; exact (Below.refl wr.heap.size wr).alloc (Nat.le_refl _) _)
        have n5 := hid (show Blk wa wr.heap.size 66 #[.int .i64 (k : Int), .int .i64 xn] by rw [hwa]; exact Blk.new wr _ _)
        have B5 := hid (HB.out.trans (b5.out.mono HB.out.size))
        have X5 := hid (show OwnX wa w.heap.size (.slice (some ⟨g, 0, none⟩) bs.length cX) l from own_kt (ts := [45]) HX.out (KT.of_below b5.out) (by decide))
        have hkI : (k : Int) < bs.length := hk.2
        clear hgb hca HX HB hk hgz
        go_upto_region 9 with fail
        rw [← hwa]
        have x0 := n5.out.cell 0; have x1 := n5.out.cell 1; have xz := n5.out.lt
        simp at x0 x1
        have xc1 := hcl.out wa X5.out
        obtain ⟨xz2, xf⟩ := hfr.out wa X5.out
        clear hwa c0 c1 hz hcl hfr
        refine wpIn_wide.1 (wpIn_region_S (n := 0) (fun wq => wq.cell? ⟨wr.heap.size, 0, none⟩ = some (.int .i64 (k : Int)) ∧ wq.cell? ⟨wr.heap.size, 1, none⟩ = some (.int .i64 xn) ∧ wq.cell? ⟨g, k * 3 + 1, none⟩ = some (.int .i64 cnt)) [] (by kernel_rfl) ⟨x0, x1, xc1⟩ (fun hHeld => ?_))
        refine wpAnyS_pure 0 (v := ?_) (fun _ => trivial) (by simp only [List.getElem?_toArray, List.getElem?_cons_succ, List.getElem?_cons_zero]; rfl) (by kernel_rfl) (fun _ _ _ _ _ h => h) ⟨rfl, (by intro c h; cases h), ?_⟩ hHeld ?_
        rotate_left
        focus (intro wS hSw; (try replace hSw := HSF.out wS hSw); (try dsimp only at hSw); go_simp; (try with_reducible rfl))
        (try simp only [Act.put, List.setIfInBounds_toArray, List.set_cons_zero, List.set_cons_succ])
        refine wpAnyS_take 1 (v := ?_) (fun _ => trivial) (by simp only [List.getElem?_toArray, List.getElem?_cons_succ, List.getElem?_cons_zero]; rfl) (by kernel_rfl) (fun _ _ _ _ _ h => h) ⟨rfl, (by intro c h; cases h), ?_⟩ hHeld ?_
        rotate_left
        focus (intro wS hSw; (try replace hSw := HSF.out wS hSw); (try dsimp only at hSw); go_simp; (try with_reducible rfl))
        (try simp only [Act.put, List.setIfInBounds_toArray, List.set_cons_zero, List.set_cons_succ])
        refine wpAnyS_pure 2 (v := ?_) (fun _ => trivial) (by simp only [List.getElem?_toArray, List.getElem?_cons_succ, List.getElem?_cons_zero]; rfl) (by kernel_rfl) (fun _ _ _ _ _ h => h) ⟨rfl, (by intro c h; cases h), ?_⟩ hHeld ?_
        rotate_left
        focus (intro wS hSw; (try replace hSw := HSF.out wS hSw); (try dsimp only at hSw); go_simp; (try with_reducible rfl))
        (try simp only [Act.put, List.setIfInBounds_toArray, List.set_cons_zero, List.set_cons_succ])
        refine wpAnyS_pure 3 (v := ?_) (fun _ => trivial) (by simp only [List.getElem?_toArray, List.getElem?_cons_succ, List.getElem?_cons_zero]; rfl) (by kernel_rfl) (fun _ _ _ _ _ h => h) ⟨rfl, (by intro c h; cases h), ?_⟩ hHeld ?_
        rotate_left
        focus (intro wS hSw; (try replace hSw := HSF.out wS hSw); (try dsimp only at hSw); go_simp; (try with_reducible rfl))
        (try simp only [Act.put, List.setIfInBounds_toArray, List.set_cons_zero, List.set_cons_succ])
        refine wpAnyS_take 4 (v := ?_) (fun _ => trivial) (by simp only [List.getElem?_toArray, List.getElem?_cons_succ, List.getElem?_cons_zero]; rfl) (by kernel_rfl) (fun _ _ _ _ _ h => h) ⟨rfl, (by intro c h; cases h), ?_⟩ hHeld ?_
        rotate_left
        focus (intro wS hSw; (try replace hSw := HSF.out wS hSw); (try dsimp only at hSw); go_simp; (try with_reducible rfl))
        (try simp only [Act.put, List.setIfInBounds_toArray, List.set_cons_zero, List.set_cons_succ])
        refine wpAnyS_pure 5 (v := ?_) (fun _ => trivial) (by simp only [List.getElem?_toArray, List.getElem?_cons_succ, List.getElem?_cons_zero]; rfl) (by kernel_rfl) (fun _ _ _ _ _ h => h) ⟨rfl, (by intro c h; cases h), ?_⟩ hHeld ?_
        rotate_left
        focus (intro wS hSw; (try replace hSw := HSF.out wS hSw); (try dsimp only at hSw); go_simp; (try with_reducible rfl))
        (try simp only [Act.put, List.setIfInBounds_toArray, List.set_cons_zero, List.set_cons_succ])
        refine wpAnyS_pure 6 (v := ?_) (fun _ => trivial) (by simp only [List.getElem?_toArray, List.getElem?_cons_succ, List.getElem?_cons_zero]; rfl) (by kernel_rfl) (fun _ _ _ _ _ h => h) ⟨rfl, (by intro c h; cases h), ?_⟩ hHeld ?_
        rotate_left
        focus (intro wS hSw; (try replace hSw := HSF.out wS hSw); (try dsimp only at hSw); go_simp; (try with_reducible rfl))
        (try simp only [Act.put, List.setIfInBounds_toArray, List.set_cons_zero, List.set_cons_succ])
        refine wpAnyS_take 7 (v := ?_) (fun _ => trivial) (by simp only [List.getElem?_toArray, List.getElem?_cons_succ, List.getElem?_cons_zero]; rfl) (by kernel_rfl) (fun _ _ _ _ _ h => h) ⟨rfl, (by intro c h; cases h), ?_⟩ hHeld ?_
        rotate_left
        focus (intro wS hSw; (try replace hSw := HSF.out wS hSw); (try dsimp only at hSw); go_simp; (try with_reducible rfl))
        (try simp only [Act.put, List.setIfInBounds_toArray, List.set_cons_zero, List.set_cons_succ])
        refine wpAnyS_pure 8 (v := ?_) (fun _ => trivial) (by simp only [List.getElem?_toArray, List.getElem?_cons_succ, List.getElem?_cons_zero]; rfl) (by kernel_rfl) (fun _ _ _ _ _ h => h) ⟨rfl, (by intro c h; cases h), ?_⟩ hHeld ?_
        rotate_left
        focus (intro wS hSw; (try replace hSw := HSF.out wS hSw); (try dsimp only at hSw); go_simp; (try with_reducible rfl))
        (try simp only [Act.put, List.setIfInBounds_toArray, List.set_cons_zero, List.set_cons_succ])
        refine wpAnyS_done (by kernel_rfl) ?_
        clear hHeld
        by_cases hc : cnt < xn
        · have hp := hid (show pickL bs ts = ([], 22) by rw [hpl.out, HS.out, hdr.out, hpk.out, if_pos hc])
          as_aux_lemma =>
            go_wp2_with fail
            refine bodyPost_ret (v := .tuple #[.slice none 0 0, .int .i64 22]) (by simp [results, Tryz.results24, go_sem]) rfl ?_
            exact ⟨none, 0, by rw [hp.out]; rfl, by rw [hp.out]; exact Nat.zero_le _, by rw [hp.out]; exact SlR.nil, B5.out.drew⟩
        have hps := hid (show pickGo ts bs = pickGo (ts.drop (i + 1)) (subAt l k xn) by rw [HS.out, hdr.out, hpk.out, if_neg hc])
        have hw1 : IntKind.i64.wrap (cnt - xn) = cnt - xn := IntWalk.i64_in _ (by omega)
        go_upto_region 11 with fail
        refine wpIn_wide.1 (wpIn_region_S (n := 0) (fun wq => wq.cell? ⟨wr.heap.size, 0, none⟩ = some (.int .i64 (k : Int)) ∧ wq.cell? ⟨wr.heap.size, 1, none⟩ = some (.int .i64 xn) ∧ wq.cell? ⟨g, k * 3 + 1, none⟩ = some (.int .i64 cnt)) [11] (by kernel_rfl) ⟨x0, x1, xc1⟩ (fun hHeld => ?_))
        refine wpAnyS_pure 0 (v := ?_) (fun _ => trivial) (by simp only [List.getElem?_toArray, List.getElem?_cons_succ, List.getElem?_cons_zero]; rfl) (by kernel_rfl) (fun _ _ _ _ _ h => h) ⟨rfl, (by intro c h; cases h), ?_⟩ hHeld ?_
        rotate_left
        focus (intro wS hSw; (try replace hSw := HSF.out wS hSw); (try dsimp only at hSw); go_simp; (try with_reducible rfl))
        (try simp only [Act.put, List.setIfInBounds_toArray, List.set_cons_zero, List.set_cons_succ])
        refine wpAnyS_pure 1 (v := ?_) (fun _ => trivial) (by simp only [List.getElem?_toArray, List.getElem?_cons_succ, List.getElem?_cons_zero]; rfl) (by kernel_rfl) (fun _ _ _ _ _ h => h) ⟨rfl, (by intro c h; cases h), ?_⟩ hHeld ?_
        rotate_left
        focus (intro wS hSw; (try replace hSw := HSF.out wS hSw); (try dsimp only at hSw); go_simp; (try with_reducible rfl))
        (try simp only [Act.put, List.setIfInBounds_toArray, List.set_cons_zero, List.set_cons_succ])
        refine wpAnyS_take 2 (v := ?_) (fun _ => trivial) (by simp only [List.getElem?_toArray, List.getElem?_cons_succ, List.getElem?_cons_zero]; rfl) (by kernel_rfl) (fun _ _ _ _ _ h => h) ⟨rfl, (by intro c h; cases h), ?_⟩ hHeld ?_
        rotate_left
        focus (intro wS hSw; (try replace hSw := HSF.out wS hSw); (try dsimp only at hSw); go_simp; (try with_reducible rfl))
        (try simp only [Act.put, List.setIfInBounds_toArray, List.set_cons_zero, List.set_cons_succ])
        refine wpAnyS_pure 3 (v := ?_) (fun _ => trivial) (by simp only [List.getElem?_toArray, List.getElem?_cons_succ, List.getElem?_cons_zero]; rfl) (by kernel_rfl) (fun _ _ _ _ _ h => h) ⟨rfl, (by intro c h; cases h), ?_⟩ hHeld ?_
        rotate_left
        focus (intro wS hSw; (try replace hSw := HSF.out wS hSw); (try dsimp only at hSw); go_simp; (try with_reducible rfl))
        (try simp only [Act.put, List.setIfInBounds_toArray, List.set_cons_zero, List.set_cons_succ])
        refine wpAnyS_pure 4 (v := ?_) (fun _ => trivial) (by simp only [List.getElem?_toArray, List.getElem?_cons_succ, List.getElem?_cons_zero]; rfl) (by kernel_rfl) (fun _ _ _ _ _ h => h) ⟨rfl, (by intro c h; cases h), ?_⟩ hHeld ?_
        rotate_left
        focus (intro wS hSw; (try replace hSw := HSF.out wS hSw); (try dsimp only at hSw); go_simp; (try with_reducible rfl))
        (try simp only [Act.put, List.setIfInBounds_toArray, List.set_cons_zero, List.set_cons_succ])
        refine wpAnyS_take 5 (v := ?_) (fun _ => trivial) (by simp only [List.getElem?_toArray, List.getElem?_cons_succ, List.getElem?_cons_zero]; rfl) (by kernel_rfl) (fun _ _ _ _ _ h => h) ⟨rfl, (by intro c h; cases h), ?_⟩ hHeld ?_
        rotate_left
        focus (intro wS hSw; (try replace hSw := HSF.out wS hSw); (try dsimp only at hSw); go_simp; (try with_reducible rfl))
        (try simp only [Act.put, List.setIfInBounds_toArray, List.set_cons_zero, List.set_cons_succ])
        refine wpAnyS_pure 6 (v := ?_) (fun _ => trivial) (by simp only [List.getElem?_toArray, List.getElem?_cons_succ, List.getElem?_cons_zero]; rfl) (by kernel_rfl) (fun _ _ _ _ _ h => h) ⟨rfl, (by intro c h; cases h), ?_⟩ hHeld ?_
        rotate_left
        focus (intro wS hSw; (try replace hSw := HSF.out wS hSw); (try dsimp only at hSw); go_simp; (try with_reducible rfl))
        (try simp only [Act.put, List.setIfInBounds_toArray, List.set_cons_zero, List.set_cons_succ])
        refine wpAnyS_take 7 (v := ?_) (fun _ => trivial) (by simp only [List.getElem?_toArray, List.getElem?_cons_succ, List.getElem?_cons_zero]; rfl) (by kernel_rfl) (fun _ _ _ _ _ h => h) ⟨rfl, (by intro c h; cases h), ?_⟩ hHeld ?_
        rotate_left
        focus (intro wS hSw; (try replace hSw := HSF.out wS hSw); (try dsimp only at hSw); go_simp; (try with_reducible rfl))
        (try simp only [Act.put, List.setIfInBounds_toArray, List.set_cons_zero, List.set_cons_succ])
        refine wpAnyS_pure 8 (v := ?_) (fun _ => trivial) (by simp only [List.getElem?_toArray, List.getElem?_cons_succ, List.getElem?_cons_zero]; rfl) (by kernel_rfl) (fun _ _ _ _ _ h => h) ⟨rfl, (by intro c h; cases h), ?_⟩ hHeld ?_
        rotate_left
        focus (intro wS hSw; (try replace hSw := HSF.out wS hSw); (try dsimp only at hSw); go_simp; (try with_reducible rfl))
        (try simp only [Act.put, List.setIfInBounds_toArray, List.set_cons_zero, List.set_cons_succ])
        refine wpAnyS_pure 9 (v := ?_) (fun _ => trivial) (by simp only [List.getElem?_toArray, List.getElem?_cons_succ, List.getElem?_cons_zero]; rfl) (by kernel_rfl) (fun _ _ _ _ _ h => h) ⟨rfl, (by intro c h; cases h), ?_⟩ hHeld ?_
        rotate_left
        focus (intro wS hSw; (try replace hSw := HSF.out wS hSw); (try dsimp only at hSw); go_simp; (try with_reducible rfl))
        (try simp only [Act.put, List.setIfInBounds_toArray, List.set_cons_zero, List.set_cons_succ])
        refine wpAnyS_pure 10 (v := ?_) (fun _ => trivial) (by simp only [List.getElem?_toArray, List.getElem?_cons_succ, List.getElem?_cons_zero]; rfl) (by kernel_rfl) (fun _ _ _ _ _ h => h) ⟨rfl, (by intro c h; cases h), ?_⟩ hHeld ?_
        rotate_left
        focus (intro wS hSw; (try replace hSw := HSF.out wS hSw); (try dsimp only at hSw); go_simp; (try with_reducible rfl))
        (try simp only [Act.put, List.setIfInBounds_toArray, List.set_cons_zero, List.set_cons_succ])
        have x7 : wa.drew.drew.frozen? ⟨g, k * 3 + 1, none⟩ = false := xf
        refine wpAnyS_ready [11] (by kernel_rfl) (by simp) (AllReadyS.consL (by simp only [List.getElem?_toArray, List.getElem?_cons_succ, List.getElem?_cons_zero]; rfl) rfl (by kernel_rfl) (fun K hK => ?_) AllReadyS.nil)
        go_simp
        refine hK.out _ _ ?_
        clear hK K hHeld
        refine wpAnyS_done (by kernel_rfl) ?_
        have bd := hid (show Below wa.heap.size wa wa.drew.drew by (repeat (first | exact Below.refl _ _ | assumption | refine below_drewN ?_ _ | refine Below.drew ?_ | refine Below.alloc ?_ (by (try simp); (try omega)) _ | refine Below.setCell ?_ (by (try simp); (try omega)) _)))
        have X6 := hid (show OwnX wa.drew.drew w.heap.size (.slice (some ⟨g, 0, none⟩) bs.length cX) l from own_kt (ts := [45]) X5.out (KT.of_below bd.out) (by decide))
        have X9 := hid (hset.out _ X6.out)
        have B9 := hid ((B5.out.trans (bd.out.mono B5.out.size)).setCell (p := ⟨g, k * 3 + 1, none⟩) (by exact HGZ.out) (.int .i64 (cnt - xn)))
        as_aux_lemma =>
          go_wp2_with fail
          go_roundw
          case rel => exact ⟨i + 1, _, by omega, by go_num, X9.out, hps.out, hsub.out (by omega) (by omega), B9.out⟩
          case measure => simp [intOf]; omega
end Go.Proofs.YtfpehakllnkaeaaGreatDoor
