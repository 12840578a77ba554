
/- Game: Ranks. -/
import Derived.Test.YtdjjhflhdhihcaaGamEp
import Derived.Test.YtdjjhflhdhihcaaGamDb
set_option linter.unusedSimpArgs false
set_option linter.unusedVariables false
namespace Go.Proofs.Ytdjjhflhdhihcaa
open Go.RowKit Go.Shelf
attribute [local go_sem] Oper.semAt_some

theorem bi_len {goal : List Bool} {fm : List (Nat × List Nat)} {s : St} {dn : Nat → Nat → Bool} {c : Int} (h : BI goal fm s dn c) : s.Q.length ≤ goal.length := by
  have := List.Nodup.length_le_of_subset (l₂ := List.range goal.length) h.nd (fun q hq => List.mem_range.2 ((h.qr q).1 hq).1)
  simpa using this
def BeginC : Prop := ∀ (Ag Am : Option Addr) (cg cm : Nat) (g : Gm) (w : World) (h : GmR w w.heap.size Ag Am g) (hg : GmOK g),
    Calls Try.prog 30 #[.agg #[.slice Ag g.1.length cg, .slice Am g.2.length cm]] w fun e w' => ∃ b gi, e = .returned (.pointer (some ⟨b, 0, none⟩)) ∧ BS w w' b gi Ag Am cg cm g (start g).R ((start g).Q.map Int.ofNat) (flatF 0 g.2) []
set_option maxRecDepth 100000 in
set_option maxHeartbeats 4000000 in
theorem ranks_of (hbeg : BeginC) (Ag Am : Option Addr) (cg cm : Nat) (g : Gm) (w : World) (h : GmR w w.heap.size Ag Am g) (hg : GmOK g) :
    Calls Try.prog 21 #[.agg #[.slice Ag g.1.length cg, .slice Am g.2.length cm]] w fun e w' => ∃ v, e = .returned v ∧ OwnI w' w.heap.size v (rankL g) ∧ Below w.heap.size w w' := by
  have HB := hid hbeg
  have H := hid h
  have HG := hid hg
  clear hbeg h hg
  refine (callsIn_wide (n := 5)).1 ?_
  refine callsIn_of_wp_marks Try.func21 rfl trivial ?_ rfl
  simp only [Try.ntmps21, List.size_toArray, List.length_cons, List.length_nil, Nat.reduceAdd, Nat.reduceSub, Array.replicate_succ, Array.replicate_zero, List.push_toArray, List.append_toArray, List.nil_append, List.cons_append]
  have hB1 := hid (show Below w.heap.size w (w.alloc (Obj.cells #[.slice Ag g.1.length cg, .slice Am g.2.length cm] 25)) by (repeat (first | exact Below.refl _ _ | assumption | refine below_drewN ?_ _ | refine Below.drew ?_ | refine Below.alloc ?_ (by (try simp); (try omega)) _ | refine Below.setCell ?_ (by (try simp); (try omega)) _)))
  have H1 := hid (H.out.to hB1.out)
  have HC := hid (HB.out Ag Am cg cm g _ H1.out HG.out)
  gi_wp2
  refine ⟨trivial, ?_⟩
  gi_at_call 30
  refine (callsIn_wide.2 HC.out).mono ?_
  rintro e w2 ⟨b, gi, rfl, vR, vO, vL, vQ, vI, S, hB2, hX2⟩
  have HS := hid S
  have HB2 := hid hB2
  have hz2 := hid (hB1.out.trans (hB2.mono hB1.out.size)).size
  clear S hX2 hB2 HC
  gi_wp2
  refine ⟨trivial, ?_⟩
  gi_at_call 31
  refine (callsIn_wide.2 (won_any b _)).mono ?_
  rintro e w3 ⟨rfl, rfl⟩
  have hBw := hid (show Below w2.heap.size w2 ((w2.alloc (Obj.cells #[.pointer (some ⟨b, 0, none⟩)] 63)).alloc (Obj.cells #[.pointer (some ⟨b, 0, none⟩)] 63)) by (repeat (first | exact Below.refl _ _ | assumption | refine below_drewN ?_ _ | refine Below.drew ?_ | refine Below.alloc ?_ (by (try simp); (try omega)) _ | refine Below.setCell ?_ (by (try simp); (try omega)) _)))
  have hI0 := hid (show RkI (w.alloc (Obj.cells #[.slice Ag g.1.length cg, .slice Am g.2.length cm] 25)) b gi w2.heap.size (w2.heap.size + 1) (.slice Ag g.1.length cg) (.slice Am g.2.length cm) g 0 ((w2.alloc (Obj.cells #[.pointer (some ⟨b, 0, none⟩)] 63)).alloc (Obj.cells #[.pointer (some ⟨b, 0, none⟩)] 63)) from
    ⟨vR, vO, vL, vQ, vI, HS.out.below hBw.out, HB2.out.trans (hBw.out.mono HB2.out.size), (Blk.new w2 _ _).alloc _, Blk.new_at (by simp)⟩)
  have hsz := hid (show w.heap.size ≤ w2.heap.size from hz2.out)
  generalize hw4 : (w2.alloc (Obj.cells #[.pointer (some ⟨b, 0, none⟩)] 63)).alloc (Obj.cells #[.pointer (some ⟨b, 0, none⟩)] 63) = w4 at hI0
  have hw4' := hid hw4
  clear hw4 HS hBw
  gi_wp2
  have hbz : (w.alloc (Obj.cells #[.slice Ag g.1.length cg, .slice Am g.2.length cm] 25)).heap.size ≤ w4.heap.size := by
    obtain ⟨_, _, _, _, _, _, hB, _⟩ := hI0.out
    exact hB.size
  refine wpIn_rangeFunc_nat rfl (by omega) (gf := 43) (lb := #[.pointer (some ⟨w2.heap.size + 1, 0, none⟩)]) rfl trivial (enters_of Try.func43 (by kernel_rfl) rfl)
    (enc := fun k => #[.int .i64 ((stB g k).Q.getD k 0 : Nat)]) (fun _ => rfl) (fun k => k < (stB g k).Q.length) (RkI _ b gi w2.heap.size (w2.heap.size + 1) _ _ g) (RkI.own hbz) hI0.out
    (fun l J W hJ hJ0 hY => won1_any _ _ b gi w2.heap.size (w2.heap.size + 1) _ _ g HG.out.s HG.out.n HG.out.fm l J W hJ hJ0 hY) (fun k => { tmps := #[.agg #[.slice Ag g.1.length cg, .slice Am g.2.length cm], .pointer (some ⟨w.heap.size, 0, none⟩), .slice none 0 0, .pointer (some ⟨w2.heap.size, 0, none⟩), .int .i64 ((stB g k).Q.getD k 0 : Nat), undef, undef, undef, .agg #[.slice Ag g.1.length cg, .slice Am g.2.length cm], .pointer (some ⟨b, 0, none⟩), .pointer (some ⟨b, 0, none⟩), .func (.func 43) #[] #[.pointer (some ⟨w2.heap.size + 1, 0, none⟩)], .int .i64 ((stB g k).Q.getD k 0 : Nat), undef, undef, undef, undef, undef, undef, undef, undef, undef, undef, undef, undef, undef, undef, undef, undef, undef, undef, undef, undef, undef, undef, undef, undef, undef, undef, undef, undef, undef, undef, undef, undef, undef, undef, undef, undef, undef, undef, undef, undef, undef, undef, undef, undef, undef, undef, undef, undef, undef, undef, undef, undef, undef, undef, undef, undef, undef, undef, undef, undef, undef, undef, undef, undef, undef, undef, undef, undef, undef, undef, undef, undef, undef, undef, undef], defers := [] }) ?assign ?body ?done
  case assign =>
    intro l k W K hK
    gi_wp2
    exact hK
  case body =>
    intro l k W hI hgo
    obtain ⟨vR, vO, vL, vQ, vI, S, hB, x3, xw⟩ := hI
    have hx : (stB g k).Q.getD k 0 = (stB g k).Q[k] := by simp [List.getD, hgo]
    rw [hx]
    have hmid := hid (fun j => mid HG.out.n HG.out.fm hgo j)
    obtain ⟨_, _, _, _, _, _, hpn⟩ := hmid.out 0
    generalize (stB g k).Q[k] = p at *
    have hnext := hid (show (stB g (k + 1)) = ((intoN (flatF 0 g.2) 0 p).foldl (stepM (flatF 0 g.2) p) (stB g k)) by simp only [stB]; rw [if_pos hgo, hx]; rfl)
    have hvI : vI.length = g.1.length := by have := S.r.2.2.2.2.1; rw [this, ilist_len]
    have hvp : p < vI.length := by omega
    have hvp' : (p : Int) < vI.length := by omega
    have hoI := S.r.2.2.2.2.2 p hvp (by rw [ilist_len]; exact hpn)
    rw [ilist_get] at hoI
    simp only [List.not_mem_nil, if_false, List.append_nil] at hoI
    obtain ⟨AI, cI, hvi, hAI⟩ := hoI.form
    simp only [List.length_map] at hvi
    have it := S.ib.cell p
    simp [hvp] at it
    rw [hvi] at it hoI
    have q5 := S.sb.cell 5; have qz := S.sb.lt; have iz := S.ib.lt; have y3 := x3.cell 0; have yz := x3.lt
    simp at q5 y3
    have hml := hid (show (intoN (flatF 0 g.2) 0 p).length ≤ 1000000 by
      have h1 := into_len (flatF 0 g.2) 0 p
      have h2 := flat_len g.2 0 HG.out.l
      have h3 := HG.out.s; have h4 := HG.out.n
      have : 1000 * g.2.length ≤ 1000 * 1000 := Nat.mul_le_mul_left _ (by omega)
      omega)
    have hS := hid S
    have HBB := hid hB
    have X3 := hid x3; have XW := hid xw
    clear S hB x3 xw hAI hx
    gi_wp2
    gi_loopw [21] (fun i wr => ∃ (j : Nat) (vR vO vL vQ : Value), j ≤ (intoN (flatF 0 g.2) 0 p).length ∧ i = .int .i64 j ∧ Sol wr (w.alloc (Obj.cells #[.slice Ag g.1.length cg, .slice Am g.2.length cm] 25)).heap.size b gi (.slice Ag g.1.length cg) (.slice Am g.2.length cm) vR vO vL vQ vI (((intoN (flatF 0 g.2) 0 p).take j).foldl (stepM (flatF 0 g.2) p) (stB g k)).R (ownL (flatF 0 g.2)) (((intoN (flatF 0 g.2) 0 p).take j).foldl (stepM (flatF 0 g.2) p) (stB g k)).L ((((intoN (flatF 0 g.2) 0 p).take j).foldl (stepM (flatF 0 g.2) p) (stB g k)).Q.map Int.ofNat) (ilist (flatF 0 g.2) [] g.1.length) ∧ Below (w.alloc (Obj.cells #[.slice Ag g.1.length cg, .slice Am g.2.length cm] 25)).heap.size (w.alloc (Obj.cells #[.slice Ag g.1.length cg, .slice Am g.2.length cm] 25)) wr ∧ Blk wr w2.heap.size 63 #[.pointer (some ⟨b, 0, none⟩)] ∧ Blk wr (w2.heap.size + 1) 63 #[.pointer (some ⟨b, 0, none⟩)] ∧ KeepsOthers W wr) (fun i _ => (intoN (flatF 0 g.2) 0 p).length - (intOf i).toNat)
    case atStart => exact ⟨0, vR, vO, vL, vQ, by omega, rfl, hS.out, HBB.out, X3.out, XW.out, KeepsOthers.refl _⟩
    case round =>
      obtain ⟨j, vR, vO, vL, vQ, hj, rfl, S, hB, x3, xw, hK⟩ := hrel
      by_cases hlt : j < (intoN (flatF 0 g.2) 0 p).length
      · have hlt' : (j : Int) < (intoN (flatF 0 g.2) 0 p).length := by omega
        have hjb : j < 1000000 := by have := hml.out; omega
        obtain ⟨dn, c, BI1, hrp, hc0, hck, _⟩ := hmid.out j
        have hstep := hid (show ((intoN (flatF 0 g.2) 0 p).take (j + 1)).foldl (stepM (flatF 0 g.2) p) (stB g k) = stepM (flatF 0 g.2) p (((intoN (flatF 0 g.2) 0 p).take j).foldl (stepM (flatF 0 g.2) p) (stB g k)) (intoN (flatF 0 g.2) 0 p)[j] by
          rw [List.take_add_one, List.getElem?_eq_getElem hlt, List.foldl_append]; rfl)
        have hmem := (into_mem (flatF 0 g.2) 0 p (intoN (flatF 0 g.2) 0 p)[j]).1 (List.getElem_mem hlt)
        have hoI := S.r.2.2.2.2.2 p hvp (by rw [ilist_len]; exact hpn)
        rw [ilist_get] at hoI
        simp only [List.not_mem_nil, if_false, List.append_nil] at hoI
        rw [hvi] at hoI
        obtain ⟨A9, c9, h9, hA9⟩ := hoI.form
        obtain ⟨g9, rfl, _, hz9, hc9, _⟩ := hA9 (by intro e; simp at e; rw [e] at hlt; simp at hlt)
        simp only [Value.slice.injEq] at h9
        obtain ⟨rfl, -, -⟩ := h9
        have hcm := hc9 j (by simpa using hlt)
        simp only [List.getElem_map] at hcm
        generalize (intoN (flatF 0 g.2) 0 p)[j] = m at *
        generalize ((intoN (flatF 0 g.2) 0 p).take j).foldl (stepM (flatF 0 g.2) p) (stB g k) = s1 at *
        have hmlt : m < (flatF 0 g.2).length := by have := hmem.2.1; omega
        have hmL : m < s1.L.length := by rw [BI1.lenL]; exact hmlt
        have hcnt := BI1.cnt m hmlt
        have hlv0 : 0 ≤ s1.L.getD m 0 := by rw [hcnt]; omega
        have hlv1 : s1.L.getD m 0 ≤ 1000 := by
          rw [hcnt]
          have h1 := List.countP_le_length (p := fun t => !dn m t) (l := ((flatF 0 g.2).getD m (0, [])).2)
          have h2 := HG.out.len2 _ (fm_mem hmlt)
          omega
        obtain ⟨lw, hlw⟩ : ∃ lw, s1.L.getD m 0 = lw + 1 := ⟨s1.L.getD m 0 - 1, by omega⟩
        obtain ⟨o, hoo⟩ : ∃ o, ((flatF 0 g.2).getD m (0, [])).1 = o := ⟨_, rfl⟩
        have hon : o < g.1.length := by rw [← hoo]; exact HG.out.fm.o _ (fm_mem hmlt)
        have hoR : o < s1.R.length := by rw [BI1.lenR]; exact hon
        have hpR : p < s1.R.length := by rw [BI1.lenR]; exact hpn
        have hmO : m < (ownL (flatF 0 g.2)).length := by simpa using hmlt
        obtain ⟨AO, cO, rfl, hAO⟩ := S.r.2.1.form
        obtain ⟨gO, rfl, _, hzO, hcO, _⟩ := hAO (by intro e; rw [e] at hmO; simp at hmO)
        obtain ⟨AL, cL, rfl, hAL⟩ := S.r.2.2.1.form
        obtain ⟨gL, rfl, _, hzL, hcL, hfL⟩ := hAL (by intro e; rw [e] at hmL; simp at hmL)
        obtain ⟨AR, cR, rfl, hAR⟩ := S.r.1.form
        obtain ⟨gR, rfl, _, hzR, hcR, hfR⟩ := hAR (by intro e; rw [e] at hoR; simp at hoR)
        have nOL : gO ≠ gL := fun e => S.fam.sep 1 2 (by simp) (by simp) (by decide) gO rfl (by rw [e]; rfl)
        have nRL : gR ≠ gL := fun e => S.fam.sep 0 2 (by simp) (by simp) (by decide) gR rfl (by rw [e]; rfl)
        have nbL : b ≠ gL := fun e => own_blk_ne S.r.2.2.1 S.sb (by decide) (by rw [e]; rfl)
        have n3L : w2.heap.size ≠ gL := fun e => own_blk_ne S.r.2.2.1 x3 (by decide) (by rw [← e]; rfl)
        have k1 := hcO m hmO; have k2 := hcL m hmL; have k3 := hcR o hoR; have k4 := hcR p hpR
        have kf := hfL m; have kfR := hfR o
        have eO : (ownL (flatF 0 g.2))[m] = (o : Int) := by simp [← hoo, List.getD, hmlt]
        have eL : s1.L[m] = lw + 1 := by rw [← hlw]; simp [List.getD, hmL]
        rw [eO] at k1
        rw [eL] at k2
        obtain ⟨ro, hro⟩ : ∃ ro, s1.R[o] = ro := ⟨_, rfl⟩
        have hro' : s1.r o = ro := by rw [← hro]; simp [St.r, List.getD, hoR]
        rw [hro] at k3
        have q2 := S.sb.cell 2; have q3 := S.sb.cell 3; have q4 := S.sb.cell 4; have y3 := x3.cell 0; have yz := x3.lt; have qz := S.sb.lt
        simp at q2 q3 q4 y3
        have hmi : (m : Int) < (flatF 0 g.2).length := by omega
        have hmi2 : (m : Int) < s1.L.length := by omega
        have hoi : (o : Int) < s1.R.length := by omega
        have hmb : m < 2000000 := by have := into_len (flatF 0 g.2) 0 p; have h2 := flat_len g.2 0 HG.out.l; have h3 := HG.out.s; have h4 := HG.out.n; omega
        have hob : o < 2000 := by have h3 := HG.out.s; omega
        have hq1 := hid (show (s1.Q.map Int.ofNat).length ≤ 10000000 by have := bi_len BI1; have := HG.out.s; simp; omega)
        have S5 := hid (S.setL hmL lw)
        have T5 := hid (Tch.of_grown (base := (w.alloc (Obj.cells #[.slice Ag g.1.length cg, .slice Am g.2.length cm] 25)).heap.size) (gr_set wr gL m (.int .i64 lw)) (fun g e => by injection e with e; subst e; exact S.r.2.2.1.tch))
        have B5 := hid (T5.out.below hB (Nat.le_refl _))
        have X5 := hid (T5.out.blk x3 (by decide) (by decide) (by decide))
        have W5 := hid (T5.out.blk xw (by decide) (by decide) (by decide))
        have K5 := hid (hK.trans (KeepsOthers.setCell wr ⟨gL, m, none⟩ (.int .i64 lw)))
        have HST := hstep
        clear hc9 hA9 hAO hAL hAR hcO hcL hcR hfL hfR eO eL hcnt BI1 hoI hmem S hB x3 xw hK it hstep
        have HLW := hid hlw; have HRO := hid hro; have HRO' := hid hro'; have HOO := hid hoo; have HRP := hid hrp
        have hgo_ : k < (stB g k).Q.length := hgo
        clear hvi hoI q5 hvp' hgo
        by_cases hcase : lw ≠ 0 ∨ 0 ≤ ro
        · have hno := hid (stepM_no (fm := flatF 0 g.2) (p := p) (lw := lw) hmL hlw (by rw [hoo, hro']; exact hcase))
          by_cases hl9 : lw = 0
          · have hr9 : ¬ ro < 0 := by omega
            subst hl9
            clear hcase hlw hro hro' hoo hrp hlv0 hlv1 hc0 hck
            gi_wp2
            go_roundw
            case rel => exact ⟨j + 1, _, _, _, _, by omega, by go_num, by rw [HST.out, hno.out]; exact S5.out, B5.out, X5.out, W5.out, K5.out⟩
            case measure => simp [intOf]; omega
          · clear hcase
            gi_wp2
            go_roundw
            case rel => exact ⟨j + 1, _, _, _, _, by omega, by go_num, by rw [HST.out, hno.out]; exact S5.out, B5.out, X5.out, W5.out, K5.out⟩
            case measure => simp [intOf]; omega
        · have hl9 : lw = 0 := by omega
          have hr9 : ro < 0 := by omega
          subst hl9
          have hyes := hid (stepM_yes (fm := flatF 0 g.2) (p := p) hmL (by rw [hlw]; rfl) (by rw [hoo, hro']; exact hr9))
          have eP : s1.R[p] = c := by rw [← hrp]; simp [St.r, List.getD, hpR]
          rw [eP] at k4
          have hkq : (stB g k).Q.length ≤ 1000 := by
            obtain ⟨j', _, hB', _⟩ := stB_bk HG.out.n HG.out.fm k (by omega)
            have := hB'.len; have := HG.out.s; omega
          have hcb : c < 1000 := by have := hgo_; omega
          clear hcase hlw hro hro' hoo hrp hlv0 hlv1
          gi_wp2
          have S6 := hid ((S5.out.setR hoR (c + 1)).below ((Below.refl _ _).drew))
          have T6 := hid ((Tch.of_grown (base := (w.alloc (Obj.cells #[.slice Ag g.1.length cg, .slice Am g.2.length cm] 25)).heap.size) (gr_set (wr.setCell ⟨gL, m, none⟩ (.int .i64 0)) gR o (.int .i64 (c + 1))) (fun g e => by injection e with e; subst e; exact S5.out.r.1.tch)).trans (Tch.of_below ((Below.refl _ _).drew)))
          have B6 := hid (T6.out.below B5.out (Nat.le_refl _))
          have X6 := hid (T6.out.blk X5.out (by decide) (by decide) (by decide))
          have W6 := hid (T6.out.blk W5.out (by decide) (by decide) (by decide))
          have K6 := hid ((K5.out.trans (KeepsOthers.setCell _ ⟨gR, o, none⟩ (.int .i64 (c + 1)))).trans (KeepsOthers.drew _))
          have hwc : IntKind.i64.wrap (c + 1) = c + 1 := IntWalk.i64_in _ (by omega)
          refine wpIn_region_S (fun w' => w'.cell? ⟨w2.heap.size, 0, none⟩ = some (.pointer (some ⟨b, 0, none⟩)) ∧ w'.cell? ⟨b, 2, none⟩ = some (.slice (some ⟨gR, 0, none⟩) s1.R.length cR) ∧ w'.cell? ⟨gR, p, none⟩ = some (.int .i64 (c : Int))) [14] (by kernel_rfl) ?hS0 (fun hHeld => ?go)
          case hS0 => exact ⟨(World.cell?_setCell_far _ _ _ _ (Ne.symm n3L)).trans y3, (World.cell?_setCell_far _ _ _ _ (Ne.symm nbL)).trans q2, (World.cell?_setCell_far _ _ _ _ (Ne.symm nRL)).trans k4⟩
          refine wpAnyS_take 0 (v := ?_) (fun _ => trivial) (by simp only [List.getElem?_toArray, List.getElem?_cons_succ, List.getElem?_cons_zero]; rfl) (by kernel_rfl) (fun _ _ _ _ _ h => h) ⟨rfl, (by intro c h; cases h), ?_⟩ hHeld ?_
          rotate_left
          focus (intro wS hSw; (try replace hSw := HSF.out wS hSw); (try dsimp only at hSw); go_simp; (try with_reducible rfl))
          (try simp only [Act.put, List.setIfInBounds_toArray, List.set_cons_zero, List.set_cons_succ])
          refine wpAnyS_take 1 (v := ?_) (fun _ => trivial) (by simp only [List.getElem?_toArray, List.getElem?_cons_succ, List.getElem?_cons_zero]; rfl) (by kernel_rfl) (fun _ _ _ _ _ h => h) ⟨rfl, (by intro c h; cases h), ?_⟩ hHeld ?_
          rotate_left
          focus (intro wS hSw; (try replace hSw := HSF.out wS hSw); (try dsimp only at hSw); go_simp; (try with_reducible rfl))
          (try simp only [Act.put, List.setIfInBounds_toArray, List.set_cons_zero, List.set_cons_succ])
          refine wpAnyS_take 2 (v := ?_) (fun _ => trivial) (by simp only [List.getElem?_toArray, List.getElem?_cons_succ, List.getElem?_cons_zero]; rfl) (by kernel_rfl) (fun _ _ _ _ _ h => h) ⟨rfl, (by intro c h; cases h), ?_⟩ hHeld ?_
          rotate_left
          focus (intro wS hSw; (try replace hSw := HSF.out wS hSw); (try dsimp only at hSw); go_simp; (try with_reducible rfl))
          (try simp only [Act.put, List.setIfInBounds_toArray, List.set_cons_zero, List.set_cons_succ])
          refine wpAnyS_take 3 (v := ?_) (fun _ => trivial) (by simp only [List.getElem?_toArray, List.getElem?_cons_succ, List.getElem?_cons_zero]; rfl) (by kernel_rfl) (fun _ _ _ _ _ h => h) ⟨rfl, (by intro c h; cases h), ?_⟩ hHeld ?_
          rotate_left
          focus (intro wS hSw; (try replace hSw := HSF.out wS hSw); (try dsimp only at hSw); go_simp; (try with_reducible rfl))
          (try simp only [Act.put, List.setIfInBounds_toArray, List.set_cons_zero, List.set_cons_succ])
          refine wpAnyS_take 4 (v := ?_) (fun _ => trivial) (by simp only [List.getElem?_toArray, List.getElem?_cons_succ, List.getElem?_cons_zero]; rfl) (by kernel_rfl) (fun _ _ _ _ _ h => h) ⟨rfl, (by intro c h; cases h), ?_⟩ hHeld ?_
          rotate_left
          focus (intro wS hSw; (try replace hSw := HSF.out wS hSw); (try dsimp only at hSw); go_simp; (try with_reducible rfl))
          (try simp only [Act.put, List.setIfInBounds_toArray, List.set_cons_zero, List.set_cons_succ])
          refine wpAnyS_take 5 (v := ?_) (fun _ => trivial) (by simp only [List.getElem?_toArray, List.getElem?_cons_succ, List.getElem?_cons_zero]; rfl) (by kernel_rfl) (fun _ _ _ _ _ h => h) ⟨rfl, (by intro c h; cases h), ?_⟩ hHeld ?_
          rotate_left
          focus (intro wS hSw; (try replace hSw := HSF.out wS hSw); (try dsimp only at hSw); go_simp; (try with_reducible rfl))
          (try simp only [Act.put, List.setIfInBounds_toArray, List.set_cons_zero, List.set_cons_succ])
          refine wpAnyS_take 6 (v := ?_) (fun _ => trivial) (by simp only [List.getElem?_toArray, List.getElem?_cons_succ, List.getElem?_cons_zero]; rfl) (by kernel_rfl) (fun _ _ _ _ _ h => h) ⟨rfl, (by intro c h; cases h), ?_⟩ hHeld ?_
          rotate_left
          focus (intro wS hSw; (try replace hSw := HSF.out wS hSw); (try dsimp only at hSw); go_simp; (try with_reducible rfl))
          (try simp only [Act.put, List.setIfInBounds_toArray, List.set_cons_zero, List.set_cons_succ])
          refine wpAnyS_take 7 (v := ?_) (fun _ => trivial) (by simp only [List.getElem?_toArray, List.getElem?_cons_succ, List.getElem?_cons_zero]; rfl) (by kernel_rfl) (fun _ _ _ _ _ h => h) ⟨rfl, (by intro c h; cases h), ?_⟩ hHeld ?_
          rotate_left
          focus (intro wS hSw; (try replace hSw := HSF.out wS hSw); (try dsimp only at hSw); go_simp; (try with_reducible rfl))
          (try simp only [Act.put, List.setIfInBounds_toArray, List.set_cons_zero, List.set_cons_succ])
          refine wpAnyS_take 8 (v := ?_) (fun _ => trivial) (by simp only [List.getElem?_toArray, List.getElem?_cons_succ, List.getElem?_cons_zero]; rfl) (by kernel_rfl) (fun _ _ _ _ _ h => h) ⟨rfl, (by intro c h; cases h), ?_⟩ hHeld ?_
          rotate_left
          focus (intro wS hSw; (try replace hSw := HSF.out wS hSw); (try dsimp only at hSw); go_simp; (try with_reducible rfl))
          (try simp only [Act.put, List.setIfInBounds_toArray, List.set_cons_zero, List.set_cons_succ])
          refine wpAnyS_take 9 (v := ?_) (fun _ => trivial) (by simp only [List.getElem?_toArray, List.getElem?_cons_succ, List.getElem?_cons_zero]; rfl) (by kernel_rfl) (fun _ _ _ _ _ h => h) ⟨rfl, (by intro c h; cases h), ?_⟩ hHeld ?_
          rotate_left
          focus (intro wS hSw; (try replace hSw := HSF.out wS hSw); (try dsimp only at hSw); go_simp; (try with_reducible rfl))
          (try simp only [Act.put, List.setIfInBounds_toArray, List.set_cons_zero, List.set_cons_succ])
          refine wpAnyS_take 10 (v := ?_) (fun _ => trivial) (by simp only [List.getElem?_toArray, List.getElem?_cons_succ, List.getElem?_cons_zero]; rfl) (by kernel_rfl) (fun _ _ _ _ _ h => h) ⟨rfl, (by intro c h; cases h), ?_⟩ hHeld ?_
          rotate_left
          focus (intro wS hSw; (try replace hSw := HSF.out wS hSw); (try dsimp only at hSw); go_simp; (try with_reducible rfl))
          (try simp only [Act.put, List.setIfInBounds_toArray, List.set_cons_zero, List.set_cons_succ])
          refine wpAnyS_take 11 (v := ?_) (fun _ => trivial) (by simp only [List.getElem?_toArray, List.getElem?_cons_succ, List.getElem?_cons_zero]; rfl) (by kernel_rfl) (fun _ _ _ _ _ h => h) ⟨rfl, (by intro c h; cases h), ?_⟩ hHeld ?_
          rotate_left
          focus (intro wS hSw; (try replace hSw := HSF.out wS hSw); (try dsimp only at hSw); go_simp; (try with_reducible rfl))
          (try simp only [Act.put, List.setIfInBounds_toArray, List.set_cons_zero, List.set_cons_succ])
          refine wpAnyS_take 12 (v := ?_) (fun _ => trivial) (by simp only [List.getElem?_toArray, List.getElem?_cons_succ, List.getElem?_cons_zero]; rfl) (by kernel_rfl) (fun _ _ _ _ _ h => h) ⟨rfl, (by intro c h; cases h), ?_⟩ hHeld ?_
          rotate_left
          focus (intro wS hSw; (try replace hSw := HSF.out wS hSw); (try dsimp only at hSw); go_simp; (try with_reducible rfl))
          (try simp only [Act.put, List.setIfInBounds_toArray, List.set_cons_zero, List.set_cons_succ])
          refine wpAnyS_take 13 (v := ?_) (fun _ => trivial) (by simp only [List.getElem?_toArray, List.getElem?_cons_succ, List.getElem?_cons_zero]; rfl) (by kernel_rfl) (fun _ _ _ _ _ h => h) ⟨rfl, (by intro c h; cases h), ?_⟩ hHeld ?_
          rotate_left
          focus (intro wS hSw; (try replace hSw := HSF.out wS hSw); (try dsimp only at hSw); go_simp; (try with_reducible rfl))
          (try simp only [Act.put, List.setIfInBounds_toArray, List.set_cons_zero, List.set_cons_succ])
          refine wpAnyS_ready [14] (by kernel_rfl) (by simp) (AllReadyS.consL (by simp only [List.getElem?_toArray, List.getElem?_cons_succ, List.getElem?_cons_zero]; rfl) rfl (by kernel_rfl) (fun K hK => ?_) AllReadyS.nil)
          go_simp
          refine hK.out _ _ ?_
          refine wpAnyS_done (by kernel_rfl) ?_
          clear hK K hHeld
          (try simp only [hwc])
          generalize hw6 : ((wr.setCell ⟨gL, m, none⟩ (.int .i64 0)).setCell ⟨gR, o, none⟩ (.int .i64 (c + 1))).drew = w6 at S6 B6 X6 W6 K6 ⊢
          gi_wp2
          have hn6 := hid (show ((s1.Q.map Int.ofNat).length = s1.Q.length) by simp)
          obtain ⟨AQ, cQ, hvQ, _⟩ := S6.out.r.2.2.2.1.form
          simp only [List.length_map] at hvQ
          subst hvQ
          have S7 := hid (S6.out.below ((Below.refl _ _).drew.alloc (Nat.le_refl _) (Obj.cells #[.int .i64 (o : Int)] 3)))
          have T7 := hid (Tch.of_below (base := (w.alloc (Obj.cells #[.slice Ag g.1.length cg, .slice Am g.2.length cm] 25)).heap.size) ((Below.refl w6.heap.size w6).drew.alloc (Nat.le_refl _) (Obj.cells #[.int .i64 (o : Int)] 3)))
          have B7 := hid (T7.out.below B6.out (Nat.le_refl _))
          have X7 := hid (T7.out.blk X6.out (by decide) (by decide) (by decide))
          have W7 := hid (T7.out.blk W6.out (by decide) (by decide) (by decide))
          have K7 := hid ((K6.out.trans (KeepsOthers.drew _)).trans (KeepsOthers.alloc _ (Obj.cells #[.int .i64 (o : Int)] 3)))
          have c7 := hid ((Blk.new w6.drew 3 #[.int .i64 (o : Int)]).cell 0)
          have z7 := hid (show (w.alloc (Obj.cells #[.slice Ag g.1.length cg, .slice Am g.2.length cm] 25)).heap.size ≤ (w6.drew.alloc (Obj.cells #[.int .i64 (o : Int)] 3)).heap.size from B7.out.size)
          have q6 := S6.out.sb.cell 6; have y6 := X6.out.cell 0
          simp at q6 y6
          refine wpIn_region_S (fun w' => w'.cell? ⟨w2.heap.size, 0, none⟩ = some (.pointer (some ⟨b, 0, none⟩)) ∧ w'.cell? ⟨b, 6, none⟩ = some (.slice AQ s1.Q.length cQ)) [10] (by kernel_rfl) ⟨y6, q6⟩ (fun hHeld => ?go2)
          refine wpAnyS_take 0 (v := ?_) (fun _ => trivial) (by simp only [List.getElem?_toArray, List.getElem?_cons_succ, List.getElem?_cons_zero]; rfl) (by kernel_rfl) (fun _ _ _ _ _ h => h) ⟨rfl, (by intro c h; cases h), ?_⟩ hHeld ?_
          rotate_left
          focus (intro wS hSw; (try replace hSw := HSF.out wS hSw); (try dsimp only at hSw); go_simp; (try with_reducible rfl))
          (try simp only [Act.put, List.setIfInBounds_toArray, List.set_cons_zero, List.set_cons_succ])
          refine wpAnyS_take 1 (v := ?_) (fun _ => trivial) (by simp only [List.getElem?_toArray, List.getElem?_cons_succ, List.getElem?_cons_zero]; rfl) (by kernel_rfl) (fun _ _ _ _ _ h => h) ⟨rfl, (by intro c h; cases h), ?_⟩ hHeld ?_
          rotate_left
          focus (intro wS hSw; (try replace hSw := HSF.out wS hSw); (try dsimp only at hSw); go_simp; (try with_reducible rfl))
          (try simp only [Act.put, List.setIfInBounds_toArray, List.set_cons_zero, List.set_cons_succ])
          refine wpAnyS_take 2 (v := ?_) (fun _ => trivial) (by simp only [List.getElem?_toArray, List.getElem?_cons_succ, List.getElem?_cons_zero]; rfl) (by kernel_rfl) (fun _ _ _ _ _ h => h) ⟨rfl, (by intro c h; cases h), ?_⟩ hHeld ?_
          rotate_left
          focus (intro wS hSw; (try replace hSw := HSF.out wS hSw); (try dsimp only at hSw); go_simp; (try with_reducible rfl))
          (try simp only [Act.put, List.setIfInBounds_toArray, List.set_cons_zero, List.set_cons_succ])
          refine wpAnyS_take 3 (v := ?_) (fun _ => trivial) (by simp only [List.getElem?_toArray, List.getElem?_cons_succ, List.getElem?_cons_zero]; rfl) (by kernel_rfl) (fun _ _ _ _ _ h => h) ⟨rfl, (by intro c h; cases h), ?_⟩ hHeld ?_
          rotate_left
          focus (intro wS hSw; (try replace hSw := HSF.out wS hSw); (try dsimp only at hSw); go_simp; (try with_reducible rfl))
          (try simp only [Act.put, List.setIfInBounds_toArray, List.set_cons_zero, List.set_cons_succ])
          refine wpAnyS_take 4 (v := ?_) (fun _ => trivial) (by simp only [List.getElem?_toArray, List.getElem?_cons_succ, List.getElem?_cons_zero]; rfl) (by kernel_rfl) (fun _ _ _ _ _ h => h) ⟨rfl, (by intro c h; cases h), ?_⟩ hHeld ?_
          rotate_left
          focus (intro wS hSw; (try replace hSw := HSF.out wS hSw); (try dsimp only at hSw); go_simp; (try with_reducible rfl))
          (try simp only [Act.put, List.setIfInBounds_toArray, List.set_cons_zero, List.set_cons_succ])
          refine wpAnyS_take 5 (v := ?_) (fun _ => trivial) (by simp only [List.getElem?_toArray, List.getElem?_cons_succ, List.getElem?_cons_zero]; rfl) (by kernel_rfl) (fun _ _ _ _ _ h => h) ⟨rfl, (by intro c h; cases h), ?_⟩ hHeld ?_
          rotate_left
          focus (intro wS hSw; (try replace hSw := HSF.out wS hSw); (try dsimp only at hSw); go_simp; (try with_reducible rfl))
          (try simp only [Act.put, List.setIfInBounds_toArray, List.set_cons_zero, List.set_cons_succ])
          refine wpAnyS_ready [6] (by kernel_rfl) (by simp) (AllReadyS.cons (by simp only [List.getElem?_toArray, List.getElem?_cons_succ, List.getElem?_cons_zero]; rfl) rfl (fun K hK => ?_) AllReadyS.nil)
          go_simp
          refine hK.out _ _ (⟨(X7.out.cell 0).trans (by simp), (S7.out.sb.cell 6).trans (by simp)⟩) ?_
          clear hK K
          refine wpAnyS_ready [7] (by kernel_rfl) (by simp) (AllReadyS.cons (by simp only [List.getElem?_toArray, List.getElem?_cons_succ, List.getElem?_cons_zero]; rfl) rfl (fun K hK => ?_) AllReadyS.nil)
          refine appS (fun _ => trivial) _ (.tmp 77) (.tmp 79) rfl _ (.slice AQ s1.Q.length cQ) _ s1.Q.length hn6.out rfl S7.out.r.2.2.2.1 _ 1 (o : Int) rfl c7.out hq1.out z7.out ?_
          intro g8 c8 w8 ho8 hg8 hat8
          have T8 := hid (Tch.of_own S7.out.r.2.2.2.1 hg8)
          obtain ⟨s8, _, _⟩ := S7.out.push 3 (by simp) hg8
          have S9 := hid (S7.out.appQ hg8 ho8 hat8)
          have T9 := hid (Tch.of_set (base := (w.alloc (Obj.cells #[.slice Ag g.1.length cg, .slice Am g.2.length cm] 25)).heap.size) (j := 6) s8 S7.out.lo.1 (.inr (.inl rfl)) (.slice (some ⟨g8, 0, none⟩) (s1.Q.length + 1) c8))
          have B9 := hid ((T8.out.trans T9.out).below B7.out (Nat.le_refl _))
          have X9 := hid ((T8.out.trans T9.out).blk X7.out (by decide) (by decide) (by decide))
          have W9 := hid ((T8.out.trans T9.out).blk W7.out (by decide) (by decide) (by decide))
          have K9 := hid ((K7.out.trans (KeepsOthers.of_grownBy hg8 (fun j o e ho => S7.out.r.2.2.2.1.cells j o e ho))).trans (KeepsOthers.setCell _ ⟨b, 6, none⟩ (.slice (some ⟨g8, 0, none⟩) (s1.Q.length + 1) c8)))
          have y8 := (T8.out.blk X7.out (by decide) (by decide) (by decide)).cell 0
          have q8 := s8.cell 6; have f8 := s8.frozen 6
          simp at y8 q8
          refine hK.out _ _ (⟨y8, q8⟩) ?_
          clear hK K ho8 hg8 hat8 hHeld
          have hHeld := And.intro y8 q8
          refine wpAnyS_take 8 (v := ?_) (fun _ => trivial) (by simp only [List.getElem?_toArray, List.getElem?_cons_succ, List.getElem?_cons_zero]; rfl) (by kernel_rfl) (fun _ _ _ _ _ h => h) ⟨rfl, (by intro c h; cases h), ?_⟩ hHeld ?_
          rotate_left
          focus (intro wS hSw; (try replace hSw := HSF.out wS hSw); (try dsimp only at hSw); go_simp; (try with_reducible rfl))
          (try simp only [Act.put, List.setIfInBounds_toArray, List.set_cons_zero, List.set_cons_succ])
          refine wpAnyS_take 9 (v := ?_) (fun _ => trivial) (by simp only [List.getElem?_toArray, List.getElem?_cons_succ, List.getElem?_cons_zero]; rfl) (by kernel_rfl) (fun _ _ _ _ _ h => h) ⟨rfl, (by intro c h; cases h), ?_⟩ hHeld ?_
          rotate_left
          focus (intro wS hSw; (try replace hSw := HSF.out wS hSw); (try dsimp only at hSw); go_simp; (try with_reducible rfl))
          (try simp only [Act.put, List.setIfInBounds_toArray, List.set_cons_zero, List.set_cons_succ])
          refine wpAnyS_ready [10] (by kernel_rfl) (by simp) (AllReadyS.consL (by simp only [List.getElem?_toArray, List.getElem?_cons_succ, List.getElem?_cons_zero]; rfl) rfl (by kernel_rfl) (fun K hK => ?_) AllReadyS.nil)
          go_simp
          refine hK.out _ _ ?_
          refine wpAnyS_done (by kernel_rfl) ?_
          clear hK K hHeld s8 y8 q8 f8
          gi_wp2
          go_roundw
          case rel => exact ⟨j + 1, _, _, _, _, by omega, by go_num, by rw [HST.out, hyes.out, HOO.out, HRP.out, List.map_append]; exact S9.out, B9.out, X9.out, W9.out, K9.out⟩
          case measure => simp [intOf]; omega
      · obtain rfl : j = (intoN (flatF 0 g.2) 0 p).length := by omega
        rw [List.take_length, ← hnext.out] at S
        have hS9 := hid S; have hB9 := hid hB; have hx9 := hid x3; have hw9 := hid xw; have hK9 := hid hK
        clear S hB x3 xw hK hvi hoI it q5 qz iz y3 yz hvp' hgo
        gi_wp2
        exact ⟨hK9.out, _, _, _, _, _, hS9.out, hB9.out, hx9.out, hw9.out⟩
  case done =>
    intro D k W hD hgo hI hK
    obtain ⟨vR, vO, vL, vQ, vI, S, hB, x3, _⟩ := hI
    have q2 := S.sb.cell 2; have qz := S.sb.lt; have y3 := x3.cell 0; have yz := x3.lt
    simp at q2 y3
    have hR := hid (stB_rank HG.out.n HG.out.fm (k := k) (by omega))
    have ho := hid S.r.1
    have hBf := hid (hB1.out.trans (hB.mono hB1.out.size))
    obtain ⟨AR, cR, rfl, _⟩ := S.r.1.form
    clear S hB x3
    gi_wp2
    refine ⟨by simp, .inl ⟨_, _, rfl, run_takeDeferred hK, ?_⟩⟩
    have hlen : (stB g k).R.length = (rankL g).length := by rw [hR.out]
    refine ⟨_, results_tmp rfl _ _ _, _, rfl, ?_, ?_⟩
    · have h5 := ho.out
      rw [hR.out] at h5
      have h6 : OwnI (W.putObj D (.deferred none)) (w.alloc (Obj.cells #[.slice Ag g.1.length cg, .slice Am g.2.length cm] 25)).heap.size (.slice AR (rankL g).length cR) (rankL g) := ownsRow_putObj h5 _ hK rfl
      have h7 : OwnI (W.putObj D (.deferred none)) w.heap.size (.slice AR (rankL g).length cR) (rankL g) := OwnI.mono h6 hB1.out.size
      simpa [hR.out] using h7
    · exact hBf.out.trans (belowK_b (w := w) (Nat.le_refl _) W D _ _ (by have := hbz; simp at this; omega) hK rfl rfl)
end Go.Proofs.Ytdjjhflhdhihcaa
