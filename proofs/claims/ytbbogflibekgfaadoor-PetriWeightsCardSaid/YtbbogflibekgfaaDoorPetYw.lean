
/- Petri: PetriWeights, the walk. -/
import Derived.Test.YtbbogflibekgfaaDoorPetY
import Derived.Test.YtbbogflibekgfaaDoorPetW
set_option linter.unusedSimpArgs false
set_option linter.unusedVariables false
namespace Go.Proofs.YtbbogflibekgfaaDoor
open Go.RowKit Go.IntWalk Go.Shelf

theorem mark_parts {N : Nat} {T : List Tr} {m : List Int} (h : markOK ((N : Int), T) m = true) : m.length = N ∧ ∀ x ∈ m, 0 ≤ x ∧ x ≤ 1099511627776 := by
  simp only [markOK, Bool.and_eq_true, decide_eq_true_eq, List.all_eq_true] at h
  exact ⟨by omega, h.2⟩
def onesK (N k : Nat) : List Int := List.replicate k 1 ++ List.replicate (N - k) 0
theorem onesK_succ (N k : Nat) (hk : k < N) : (onesK N k).set k 1 = onesK N (k + 1) := by
  unfold onesK
  rw [List.set_append_right _ _ (by rw [List.length_replicate]; exact Nat.le_refl _), List.length_replicate, Nat.sub_self, show N - k = (N - (k + 1)) + 1 by omega, List.replicate_succ, List.set_cons_zero, List.replicate_succ' (n := k)]
  simp
theorem onesK_len (N k : Nat) (hk : k ≤ N) : (onesK N k).length = N := by
  unfold onesK
  rw [List.length_append, List.length_replicate, List.length_replicate]
  omega
theorem onesK_full (N : Nat) : onesK N N = onesN N := by unfold onesK onesN; simp
theorem onesN_len (N : Nat) : (onesN N).length = N := by unfold onesN; rw [List.length_replicate]
theorem ones_mark (N : Nat) (T : List Tr) : markOK ((N : Int), T) (onesN N) = true := by
  unfold markOK
  simp only [Bool.and_eq_true, decide_eq_true_eq, List.all_eq_true]
  refine ⟨by rw [onesN_len], fun x hx => ?_⟩
  have := List.eq_of_mem_replicate hx
  omega
theorem onesK_blk {w : World} {g N k : Nat} (h : Blk w g 3 ((onesK N k).map (Value.int .i64)).toArray) (hk : k < N) : Blk (w.setCell ⟨g, k, none⟩ (.int .i64 1)) g 3 ((onesK N (k + 1)).map (Value.int .i64)).toArray := by
  have := h.set_ k (.int .i64 1)
  rw [← onesK_succ N k hk, List.map_set]
  simpa using this
set_option maxRecDepth 100000 in
set_option maxHeartbeats 8000000 in
theorem pweights_any (n : Int) (A : Option Addr) (c : Nat) (T : List Tr) (A2 : Option Addr) (d2 : Nat) (m0 : List Int) (A3 : Option Addr) (d3 : Nat) (ws : List Int) (A4 : Option Addr) (d4 : Nat) (l : List Int) (w : World) (hl : T.length ≤ maxLen) (h : SlR w w.heap.size A T) (hm0 : m0.length ≤ maxLen) (hM0 : SlR w w.heap.size A2 m0)
    (hlw : ws.length ≤ maxLen) (hW : SlR w w.heap.size A3 ws) (hll : l.length ≤ maxLen) (hL : SlR w w.heap.size A4 l) (hE : Env w) :
    Calls Tryd.prog 7 #[.agg #[.int .i64 n, .slice A T.length c], .slice A2 m0.length d2, .slice A3 ws.length d3, .slice A4 l.length d4] w fun e w' => e = .returned (.bool true) ∧ Below w.heap.size w w' := by
  obtain ⟨w1, hw1⟩ : ∃ w1, w1 = (w.alloc (Obj.cells #[.int .i64 n, .slice A T.length c] 24)) := ⟨_, rfl⟩
  have B1 := hid (show Below w.heap.size w w1 by rw [hw1]; (repeat (first | exact Below.refl _ _ | assumption | refine below_drewN ?_ _ | refine Below.drew ?_ | refine Below.alloc ?_ (by (try simp); (try omega)) _ | refine Below.setCell ?_ (by (try simp); (try omega)) _)))
  have X1 := hid (show Blk w1 w.heap.size 24 #[.int .i64 n, .slice A T.length c] by rw [hw1]; exact Blk.new w _ _)
  have HS := hid (psmall_any w1 (hE.below B1.out hE.pos))
  have H := hid h
  have hl2 := hid hl
  have HM0 := hid hM0
  have HL := hid hL
  have HW := hid hW
  have hm2 := hid hm0
  have hlw2 := hid hlw
  unfold maxLen at hm0 hll hlw
  clear h hE hl hM0 hL hW
  go_enter Tryd.func7, Tryd.ntmps7
  go_upto_region 1 with fail
  rw [← hw1]
  clear hw1
  go_upto_region 2 with (go_at_call 8; refine HS.out.mono ?_; rintro e w2 ⟨rfl, hB⟩)
  have B2 := hid (B1.out.trans (hB.mono B1.out.size))
  have X2 := hid (X1.out.below hB X1.out.lt)
  clear hB HS B1 X1
  have x0 := X2.out.cell 0; have x1 := X2.out.cell 1; have xz := X2.out.lt
  simp at x0 x1
  have HT0 := hid (fun (W : World) (hW : Below w2.heap.size w2 W) => show SlR W W.heap.size A T from ((H.out.below (B2.out.trans (hW.mono B2.out.size))).more (B2.out.trans (hW.mono B2.out.size)).size))
  have HW0 := hid (fun (W : World) (hW : Below w2.heap.size w2 W) => show SlR W W.heap.size A3 ws from ((HW.out.below (B2.out.trans (hW.mono B2.out.size))).more (B2.out.trans (hW.mono B2.out.size)).size))
  have HFI := hid (fits_any n A c T A2 d2 m0 12 20 w2 hl2.out (HT0.out _ (Below.refl _ _)) hm2.out ((HM0.out.below B2.out).more B2.out.size))
  have HWT := hid (fun (W : World) (hW : Below w2.heap.size w2 W) => weights_any n A c T.length A3 d3 ws W hlw2.out (HW0.out W hW))
  have HX := hid (fun (W : World) (hW : Below w2.heap.size w2 W) => show W.cell? ⟨w.heap.size, 0, none⟩ = some (.int .i64 n) ∧ W.cell? ⟨w.heap.size, 1, none⟩ = some (.slice A T.length c) ∧ w.heap.size < W.heap.size from
    ⟨(bcell hW _ _ xz).trans x0, (bcell hW _ _ xz).trans x1, Nat.lt_of_lt_of_le xz hW.size⟩)
  by_cases hn0 : n < 0
  case pos =>
    as_aux_lemma =>
      go_wp2_with fail
      go_ret
      exact ⟨rfl, B2.out⟩
  by_cases hn12 : 12 < n
  case pos =>
    as_aux_lemma =>
      go_wp2_with fail
      go_ret
      exact ⟨rfl, B2.out⟩
  have hfp := hid (show fitsN n T m0 12 20 = true → netOK (n, T) = true ∧ T.length ≤ 20 ∧ markOK (n, T) m0 = true from fun h => by
    unfold fitsN fewN at h
    simp only [Bool.and_eq_true, decide_eq_true_eq] at h
    exact ⟨h.1.1.2, by have := h.1.1.1.1.2; omega, h.2⟩)
  generalize fitsN n T m0 12 20 = ok at *
  cases ok with
  | false =>
    as_aux_lemma =>
      go_wp2_with (go_at_call 9; refine HFI.out.mono ?_; rintro e w3 ⟨rfl, hB⟩)
      have BW := hid (B2.out.trans (hB.mono B2.out.size))
      clear hB
      go_ret
      exact ⟨rfl, BW.out⟩
  | true =>
  go_wp2_with fail
  refine HFI.out.mono ?_
  rintro e w3 ⟨rfl, hB⟩
  have B3 := hid hB
  clear hB HFI x0 x1 xz
  obtain ⟨x0, x1, xz⟩ := HX.out w3 B3.out
  have HWT3 := hid (HWT.out w3 B3.out)
  have hwp := hid (show wtOK n ws = true → wtOK n ws = true from id)
  generalize hwtq : wtOK n ws = okw at HWT3
  cases okw with
  | false =>
    as_aux_lemma =>
      clear hwtq
      go_wp2_with fail
      refine HWT3.out.mono ?_
      rintro e w4 ⟨rfl, hB⟩
      have BW := hid (B2.out.trans ((B3.out.trans (hB.mono B3.out.size)).mono B2.out.size))
      clear hB
      go_wp2_with fail
      go_ret
      exact ⟨rfl, BW.out⟩
  | true =>
  have hwt := hid hwtq
  clear hwtq hwp HWT
  obtain ⟨hok, h20, hmk⟩ := hfp.out (by first | rfl | trivial)
  obtain ⟨N, hN⟩ : ∃ N : Nat, n = N := ⟨n.toNat, by omega⟩
  subst hN
  have hN12 : N ≤ 12 := by omega
  have HOK := hid hok
  have HMK := hid hmk
  have hwl := hid (wt_parts hwt.out).1
  have hwr := hid (wt_parts hwt.out).2
  have hwlN : ws.length = N := by have := hwl.out; omega
  have hwlN2 := hid hwlN
  clear hok hmk hfp hn12 hn0 hwlN
  by_cases hl60 : (60 : Int) < l.length
  case pos =>
    as_aux_lemma =>
      go_wp2_with fail
      refine HWT3.out.mono ?_
      rintro e w4 ⟨rfl, hB⟩
      have BW := hid (B2.out.trans ((B3.out.trans (hB.mono B3.out.size)).mono B2.out.size))
      clear hB
      go_wp2_with fail
      go_ret
      exact ⟨rfl, BW.out⟩
  have hl60' : l.length ≤ 60 := by omega
  go_wp2_with fail
  refine HWT3.out.mono ?_
  rintro e w4 ⟨rfl, hB⟩
  have B4 := hid (B3.out.trans (hB.mono B3.out.size))
  clear hB HWT3 x0 x1 xz
  obtain ⟨x0, x1, xz⟩ := HX.out w4 B4.out
  have HIN := hid (inv_any N A c T A3 d3 ws w4 hl2.out (HT0.out _ B4.out) (HW0.out _ B4.out) HOK.out hwt.out)
  have HWE := hid (fun (m : List Int) (A7 : Option Addr) (c7 : Nat) (W : World) (hW : Below w2.heap.size w2 W) (hs : SlR W W.heap.size A7 m) (hmk : markOK ((N : Int), T) m = true) => weight_any A7 c7 m A3 d3 ws W hs (HW0.out W hW) (by have := (mark_parts hmk).1; omega) (by have := (mark_parts hmk).1; have := hwlN2.out; omega) (mark_parts hmk).2 hwr.out)
  go_upto_region 4 with fail
  cases hinv : invN T ws with
  | false =>
    have HNI := hid hinv
    rw [hinv] at HIN
    clear hinv
    go_wp2_with fail
    refine HIN.out.mono ?_
    rintro e w5 ⟨rfl, hB⟩
    have B5 := hid (B4.out.trans (hB.mono B4.out.size))
    clear hB HIN x0 x1 xz
    obtain ⟨x0, x1, xz⟩ := HX.out w5 B5.out
    obtain ⟨i0, hi, hz0, hz1, hz2⟩ := info_parts infoInt
    have hmk := fun W => run_make_rowN (P := Tryd.prog) 25 3 i0 _ Tryd.underlying25 hi hz0 .i64 .i64 N N (Nat.le_refl _) (by rw [hz2]; omega) (by omega) W
    rw [hz1] at hmk
    clear hi hz0 hz1 hz2
    go_upto_region 7 with fail
    clear hmk
    have hz := hid (Blk.new w5 3 (madeCells #[Value.int .i64 0] N))
    have BZ := hid ((Below.refl w5.heap.size w5).alloc (Nat.le_refl _) (Obj.cells (madeCells #[Value.int .i64 0] N) 3))
    have hz2 := hid (show Blk (w5.alloc (Obj.cells (madeCells #[Value.int .i64 0] N) 3)) w5.heap.size 3 ((onesK N 0).map (Value.int .i64)).toArray from by
      have e : onesK N 0 = List.replicate N 0 := by unfold onesK; simp
      rw [e, ← made_ints]
      exact hz.out)
    clear hz x0 x1 xz
    generalize hgg : w5.heap.size = gz at hz2 ⊢
    have hgz := hid (Nat.le_of_eq hgg)
    clear hgg
    generalize (w5.alloc (Obj.cells (madeCells #[Value.int .i64 0] N) 3)) = w6 at *
    go_loopw [11] (fun i wr => ∃ k : Nat, k ≤ N ∧ i = .int .i64 k ∧ Blk wr gz 3 ((onesK N k).map (Value.int .i64)).toArray ∧ Below w5.heap.size w5 wr) (fun i _ => N - (intOf i).toNat)
    case atStart => exact ⟨0, by omega, rfl, hz2.out, BZ.out⟩
    case round =>
      obtain ⟨k, hk, rfl, hb, hB⟩ := hrel
      have HBL := hid hb
      have HB := hid hB
      obtain ⟨x0, x1, xz⟩ := HX.out wr (B5.out.trans (hB.mono B5.out.size))
      clear hb hB
      by_cases hlt : k < N
      case pos =>
        as_aux_lemma =>
          have hlt' : (k : Int) < N := by omega
          obtain ⟨v, hv⟩ : ∃ v, wr.cell? ⟨gz, k, none⟩ = some v := by
            rw [HBL.out.cell, List.getElem?_toArray, List.getElem?_eq_getElem (by rw [List.length_map, onesK_len N k (by omega)]; exact hlt)]
            exact ⟨_, rfl⟩
          have hf := HBL.out.frozen k
          have hbz := HBL.out.lt
          go_wp2_with fail
          go_roundw
          case rel => exact ⟨k + 1, by omega, by go_num, onesK_blk HBL.out hlt, HB.out.setCell (by simpa using hgz.out) _⟩
          case measure => simp [intOf]; omega
      case neg =>
        obtain rfl : k = N := by omega
        rw [onesK_full] at HBL
        have hON := hid (show SlR wr wr.heap.size (some ⟨gz, 0, none⟩) (onesN k) from HBL.out.ints HBL.out.lt (fun x hx => by have := List.eq_of_mem_replicate hx; subst this; exact i64s 1 (by omega)))
        have B7 := hid (B5.out.trans (HB.out.mono B5.out.size))
        clear hz2 BZ HB HBL
        have hol := hid (onesN_len k)
        have HFR := hid (fun (q : Nat) (hq : q < T.length) (W : World) (hW : Below wr.heap.size wr W) => show Calls Tryd.prog 15 #[.agg #[.int .i64 (k : Nat), .slice A T.length c], .slice (some ⟨gz, 0, none⟩) k k, .int .i64 (q : Nat)] W fun e w' => ∃ A7 c7, e = .returned (.tuple #[.slice A7 (stepN (onesN k) T[q]).length c7, .int .i64 0]) ∧ SlR w' w'.heap.size A7 (stepN (onesN k) T[q]) ∧ Below W.heap.size W w' from by
          have := fire_any (k : Int) A c T (some ⟨gz, 0, none⟩) k (onesN k) (q : Int) W hl2.out (HT0.out _ (B7.out.trans (hW.mono B7.out.size))) ((hON.out.below hW).more hW.size) HOK.out (ones_mark k T)
          rw [(fire_ones HOK.out q hq).1, hol.out] at this
          exact this)
        have HWO := hid (fun (W : World) (hW : Below wr.heap.size wr W) => show Calls Tryd.prog 22 #[.slice (some ⟨gz, 0, none⟩) k k, .slice A3 ws.length d3] W fun e w' => e = .returned (.int .i64 (weightN (onesN k) ws)) ∧ W = w' from by
          have := HWE.out (onesN k) (some ⟨gz, 0, none⟩) k W (B7.out.trans (hW.mono B7.out.size)) ((hON.out.below hW).more hW.size) (ones_mark k T)
          rw [hol.out] at this
          exact this)
        have HUB := hid (fun (q : Nat) (hq : q < T.length) => show unbal ws T[q] = decide (weightN (stepN (onesN k) T[q]) ws ≠ weightN (onesN k) ws) from by
          have := unbal_ones (ws := ws) HOK.out hwlN2.out q hq
          rw [(fire_ones HOK.out q hq).1] at this
          exact this)
        have HMO := hid (fun (q : Nat) (hq : q < T.length) => (fire_ones HOK.out q hq).2)
        have HXr := hid (fun (W : World) (hW : Below wr.heap.size wr W) => HX.out W (B7.out.trans (hW.mono B7.out.size)))
        have HW7 := hid (fun (W : World) (hW : Below wr.heap.size wr W) => show Below w.heap.size w W from B2.out.trans ((B7.out.trans (hW.mono B7.out.size)).mono B2.out.size))
        generalize weightN (onesN k) ws = wo at *
        go_upto_region 11 with fail
        obtain ⟨wy, hwy⟩ : ∃ wy, wy = wr := ⟨_, rfl⟩
        subst hwy
        go_loopw [12] (fun i wr => ∃ j : Nat, j ≤ T.length ∧ i = .int .i64 j ∧ (T.take j).any (unbal ws) = false ∧ Below wy.heap.size wy wr) (fun i _ => T.length - (intOf i).toNat)
        case atStart => exact ⟨0, by omega, rfl, by simp, Below.refl _ _⟩
        case round =>
          obtain ⟨j, hj, rfl, hno, hB⟩ := hrel
          have HNO := hid hno
          have HB := hid hB
          obtain ⟨x0, x1, xz⟩ := HXr.out wr hB
          clear hno hB
          by_cases hlt2 : j < T.length
          case pos =>
            have hlt2' : (j : Int) < T.length := by omega
            have hF := hid (HFR.out j hlt2 wr HB.out)
            have hU := hid (HUB.out j hlt2)
            have hM := hid (HMO.out j hlt2)
            have hst := hid (show (T.take (j + 1)).any (unbal ws) = unbal ws T[j] by rw [List.take_add_one, List.getElem?_eq_getElem hlt2, List.any_append, HNO.out]; simp)
            have hWS := hid (fun (A7 : Option Addr) (c7 : Nat) (W : World) (hW : Below wy.heap.size wy W) (hs : SlR W W.heap.size A7 (stepN (onesN k) T[j])) => HWE.out (stepN (onesN k) T[j]) A7 c7 W (B7.out.trans (hW.mono B7.out.size)) hs hM.out)
            clear hM
            generalize T[j] = t at *
            generalize unbal ws t = ub at *
            generalize stepN (onesN k) t = st at *
            generalize weightN st ws = wst at *
            go_wp2_with fail
            refine hF.out.mono ?_
            rintro e v1 ⟨A7, c7, rfl, hs7, hB⟩
            have BV := hid (HB.out.trans (hB.mono HB.out.size))
            have HS7 := hid hs7
            clear hs7 hB x0 x1 xz
            obtain ⟨x0, x1, xz⟩ := HXr.out v1 BV.out
            go_wp2_with fail
            refine (hWS.out A7 c7 v1 BV.out HS7.out).mono ?_
            rintro e v2 ⟨rfl, rfl⟩
            go_wp2_with fail
            refine (HWO.out v1 BV.out).mono ?_
            rintro e v2 ⟨rfl, rfl⟩
            by_cases hq : wst = wo
            · have hub := hid (show ub = false by rw [hU.out]; simp [hq])
              have hq2 : (wst != wo) = false := by simp [hq]
              subst hq
              as_aux_lemma =>
                go_wp2_with fail
                go_roundw
                case rel => exact ⟨j + 1, by omega, by go_num, by rw [hst.out, hub.out], BV.out⟩
                case measure => simp [intOf]; omega
            · have hq2 : (wst != wo) = true := by simp [hq]
              as_aux_lemma =>
                go_wp2_with fail
                go_ret
                exact ⟨rfl, HW7.out _ BV.out⟩
          case neg =>
            exfalso
            obtain rfl : j = T.length := by omega
            have h1 := HNO.out
            rw [List.take_length] at h1
            have h2 := HNI.out
            unfold invN at h2
            rw [h1] at h2
            cases h2
  | true =>
    have HNI := hid hinv
    rw [hinv] at HIN
    clear hinv
    go_wp2_with fail
    refine HIN.out.mono ?_
    rintro e w5 ⟨rfl, hB⟩
    have B5 := hid (B4.out.trans (hB.mono B4.out.size))
    clear hB HIN x0 x1 xz
    obtain ⟨x0, x1, xz⟩ := HX.out w5 B5.out
    go_upto_region 19 with fail
    have HWEm := hid (HWE.out m0 A2 d2 w5 B5.out ((HM0.out.below (B2.out.trans (B5.out.mono B2.out.size))).more (B2.out.trans (B5.out.mono B2.out.size)).size) HMK.out)
    have hsum := hid (show weightN m0 ws = weightN m0 ws from rfl)
    generalize hsm : weightN m0 ws = sm at HWEm
    have HSM := hid hsm
    clear hsm hsum
    go_upto_region 20 with (go_at_call 22; refine HWEm.out.mono ?_; rintro e w6 ⟨rfl, rfl⟩)
    go_upto_region 21 with fail
    clear x0 x1 xz
    go_loopw [1, 16] (fun mv iv wr => ∃ (i : Nat) (B : Option Addr) (d : Nat) (m : List Int), i ≤ l.length ∧ iv = .int .i64 i ∧ mv = .slice B m.length d ∧ markOK ((N : Int), T) m = true ∧ SlR wr wr.heap.size B m ∧ weightN m ws = sm ∧ Below w5.heap.size w5 wr) (fun _ iv _ => l.length - (intOf iv).toNat)
    case atStart => exact ⟨0, A2, d2, m0, by omega, rfl, rfl, HMK.out, ((HM0.out.below (B2.out.trans (B5.out.mono B2.out.size))).more (B2.out.trans (B5.out.mono B2.out.size)).size), HSM.out, Below.refl _ _⟩
    case round =>
      obtain ⟨i, B, d, m, hi, rfl, rfl, hmk2, hsm, hwm, hB⟩ := hrel
      have HMK2 := hid hmk2
      have HMm := hid hsm
      have HWm := hid hwm
      have BRw5 := hid hB
      have BR5 := hid (B5.out.trans (hB.mono B5.out.size))
      have BWr := hid (B2.out.trans (BR5.out.mono B2.out.size))
      have hml := hid (mark_parts hmk2).1
      clear hmk2 hsm hB hwm
      by_cases hlt : i < l.length
      case neg =>
        obtain rfl : i = l.length := by omega
        as_aux_lemma =>
          go_wp2_with fail
          go_ret
          exact ⟨rfl, BWr.out⟩
      have hii : (i : Int) < l.length := by omega
      obtain ⟨bl, ol, hA4, hbl, hcl, -⟩ := HL.out.int hlt
      have hclr := (bcell BWr.out _ _ hbl).trans hcl
      have hblr : bl < wr.heap.size := by have := BWr.out.size; omega
      subst hA4
      generalize l[i] = q at *
      obtain ⟨y0, y1, yz⟩ := HX.out wr BR5.out
      have HSF := hid (fun (wq : World) (hq : Below wr.heap.size wr wq) => And.intro ((bcell hq _ _ yz).trans y0) (And.intro ((bcell hq _ _ yz).trans y1) ((bcell hq _ _ hblr).trans hclr)))
      have HFR := hid (fun (W : World) (hW : Below wr.heap.size wr W) => fire_any (N : Int) A c T B d m q W hl2.out (HT0.out W (BR5.out.trans (hW.mono BR5.out.size))) ((HMm.out.below hW).more hW.size) HOK.out HMK2.out)
      have hfd0 := hid (fun (h : (fireN N T m q).2 = 0) => inv_weight (ws := ws) HOK.out HNI.out hml.out hwlN2.out h)
      generalize fireN N T m q = fr at *
      obtain ⟨m', er⟩ := fr
      simp only at hfd0
      clear hcl hclr y0 y1
      go_upto_region 23 with fail
      have BD := hid ((Below.refl wr.heap.size wr).drew)
      refine wpIn_wide.1 (wpIn_region_S (n := 0) (fun wq => Below wr.heap.size wr wq) [] (by kernel_rfl) BD.out (fun hHeld => ?_))
      generalize wr.drew = wd at *
      refine wpAnyG_take 0 (v := ?_) (fun _ => trivial) (by simp only [List.getElem?_toArray, List.getElem?_cons_succ, List.getElem?_cons_zero]; rfl) (by kernel_rfl) (fun _ _ _ _ _ h => h) ⟨(by rfl), (by intro c h; cases h), ?_⟩ hHeld ?_
      rotate_left
      focus (intro wS hSw; (try replace hSw := HSF.out wS hSw); (try dsimp only at hSw); go_simp; (try with_reducible rfl))
      (try simp only [Act.put, List.setIfInBounds_toArray, List.set_cons_zero, List.set_cons_succ])
      refine wpAnyG_pure 1 (v := ?_) (fun _ => trivial) (by simp only [List.getElem?_toArray, List.getElem?_cons_succ, List.getElem?_cons_zero]; rfl) (by kernel_rfl) (fun _ _ _ _ _ h => h) ⟨(by rfl), (by intro c h; cases h), ?_⟩ hHeld ?_
      rotate_left
      focus (intro wS hSw; (try replace hSw := HSF.out wS hSw); (try dsimp only at hSw); go_simp; (try with_reducible rfl))
      (try simp only [Act.put, List.setIfInBounds_toArray, List.set_cons_zero, List.set_cons_succ])
      refine wpAnyG_pure 2 (v := ?_) (fun _ => trivial) (by simp only [List.getElem?_toArray, List.getElem?_cons_succ, List.getElem?_cons_zero]; rfl) (by kernel_rfl) (fun _ _ _ _ _ h => h) ⟨(by rfl), (by intro c h; cases h), ?_⟩ hHeld ?_
      rotate_left
      focus (intro wS hSw; (try replace hSw := HSF.out wS hSw); (try dsimp only at hSw); go_simp; (try with_reducible rfl))
      (try simp only [Act.put, List.setIfInBounds_toArray, List.set_cons_zero, List.set_cons_succ])
      refine wpAnyG_pure 3 (v := ?_) (fun _ => trivial) (by simp only [List.getElem?_toArray, List.getElem?_cons_succ, List.getElem?_cons_zero]; rfl) (by kernel_rfl) (fun _ _ _ _ _ h => h) ⟨(by rfl), (by intro c h; cases h), ?_⟩ hHeld ?_
      rotate_left
      focus (intro wS hSw; (try replace hSw := HSF.out wS hSw); (try dsimp only at hSw); go_simp; (try with_reducible rfl))
      (try simp only [Act.put, List.setIfInBounds_toArray, List.set_cons_zero, List.set_cons_succ])
      refine wpAnyG_pure 4 (v := ?_) (fun _ => trivial) (by simp only [List.getElem?_toArray, List.getElem?_cons_succ, List.getElem?_cons_zero]; rfl) (by kernel_rfl) (fun _ _ _ _ _ h => h) ⟨(by rfl), (by intro c h; cases h), ?_⟩ hHeld ?_
      rotate_left
      focus (intro wS hSw; (try replace hSw := HSF.out wS hSw); (try dsimp only at hSw); go_simp; (try with_reducible rfl))
      (try simp only [Act.put, List.setIfInBounds_toArray, List.set_cons_zero, List.set_cons_succ])
      refine wpAnyG_take 5 (v := ?_) (fun _ => trivial) (by simp only [List.getElem?_toArray, List.getElem?_cons_succ, List.getElem?_cons_zero]; rfl) (by kernel_rfl) (fun _ _ _ _ _ h => h) ⟨(by rfl), (by intro c h; cases h), ?_⟩ hHeld ?_
      rotate_left
      focus (intro wS hSw; (try replace hSw := HSF.out wS hSw); (try dsimp only at hSw); go_simp; (try with_reducible rfl))
      (try simp only [Act.put, List.setIfInBounds_toArray, List.set_cons_zero, List.set_cons_succ])
      refine wpAnyS_ready [6] (by kernel_rfl) (by simp) (AllReadyS.consG (by simp only [List.getElem?_toArray, List.getElem?_cons_succ, List.getElem?_cons_zero]; rfl) (by rfl) (fun K hK => ?_) AllReadyS.nil)
      refine callV (R := fun u w' => ∃ (Al : Option Addr) (cl : Nat), u = .tuple #[.slice Al m'.length cl, .int .i64 er] ∧ SlR w' w'.heap.size Al m' ∧ Below wd.heap.size wd w') (by intro c h; cases h) (by go_simp; try with_reducible rfl) ((HFR.out wd BD.out).mono (fun e w' ⟨A', c', he, hs, hb⟩ => ⟨_, he, A', c', rfl, hs, hb⟩)) ?_
      rintro u wf ⟨Al, cl, rfl, hsl, hbl2⟩
      have BF := hid (BD.out.trans (hbl2.mono BD.out.size))
      have HMx := hid hsl
      refine hK.out _ _ BF.out ?_
      (try simp only [Act.put, List.setIfInBounds_toArray, List.set_cons_zero, List.set_cons_succ])
      clear hK K hHeld hsl hbl2
      have hHeld := BF.out
      refine wpAnyG_pure 7 (v := ?_) (fun _ => trivial) (by simp only [List.getElem?_toArray, List.getElem?_cons_succ, List.getElem?_cons_zero]; rfl) (by kernel_rfl) (fun _ _ _ _ _ h => h) ⟨(by rfl), (by intro c h; cases h), ?_⟩ hHeld ?_
      rotate_left
      focus (intro wS hSw; (try replace hSw := HSF.out wS hSw); (try dsimp only at hSw); go_simp; (try with_reducible rfl))
      (try simp only [Act.put, List.setIfInBounds_toArray, List.set_cons_zero, List.set_cons_succ])
      refine wpAnyG_pure 8 (v := ?_) (fun _ => trivial) (by simp only [List.getElem?_toArray, List.getElem?_cons_succ, List.getElem?_cons_zero]; rfl) (by kernel_rfl) (fun _ _ _ _ _ h => h) ⟨(by rfl), (by intro c h; cases h), ?_⟩ hHeld ?_
      rotate_left
      focus (intro wS hSw; (try replace hSw := HSF.out wS hSw); (try dsimp only at hSw); go_simp; (try with_reducible rfl))
      (try simp only [Act.put, List.setIfInBounds_toArray, List.set_cons_zero, List.set_cons_succ])
      refine wpAnyG_pure 10 (v := ?_) (fun _ => trivial) (by simp only [List.getElem?_toArray, List.getElem?_cons_succ, List.getElem?_cons_zero]; rfl) (by kernel_rfl) (fun _ _ _ _ _ h => h) ⟨(by rfl), (by intro c h; cases h), ?_⟩ hHeld ?_
      rotate_left
      focus (intro wS hSw; (try replace hSw := HSF.out wS hSw); (try dsimp only at hSw); go_simp; (try with_reducible rfl))
      (try simp only [Act.put, List.setIfInBounds_toArray, List.set_cons_zero, List.set_cons_succ])
      refine wpAnyG_pure 9 (v := ?_) (fun _ => trivial) (by simp only [List.getElem?_toArray, List.getElem?_cons_succ, List.getElem?_cons_zero]; rfl) (by kernel_rfl) (fun _ _ _ _ _ h => h) ⟨(by rfl), (by intro c h; cases h), ?_⟩ hHeld ?_
      rotate_left
      focus (intro wS hSw; (try replace hSw := HSF.out wS hSw); (try dsimp only at hSw); go_simp; (try with_reducible rfl))
      (try simp only [Act.put, List.setIfInBounds_toArray, List.set_cons_zero, List.set_cons_succ])
      refine wpAnyG_pure 11 (v := ?_) (fun _ => trivial) (by simp only [List.getElem?_toArray, List.getElem?_cons_succ, List.getElem?_cons_zero]; rfl) (by kernel_rfl) (fun _ _ _ _ _ h => h) ⟨(by rfl), (by intro c h; cases h), ?_⟩ hHeld ?_
      rotate_left
      focus (intro wS hSw; (try replace hSw := HSF.out wS hSw); (try dsimp only at hSw); go_simp; (try with_reducible rfl))
      (try simp only [Act.put, List.setIfInBounds_toArray, List.set_cons_zero, List.set_cons_succ])
      refine wpAnyS_done (by kernel_rfl) ?_
      clear hHeld HSF BD HFR
      have BF5 := hid (BR5.out.trans (BF.out.mono BR5.out.size))
      have BFw5 := hid (BRw5.out.trans (BF.out.mono BRw5.out.size))
      have HMy := hid ((HMm.out.below BF.out).more BF.out.size)
      by_cases her : er = 0
      case neg =>
        have HWn := hid (HWE.out m B d wf BF5.out HMy.out HMK2.out)
        rw [HWm.out] at HWn
        as_aux_lemma =>
          go_wp2_with fail
          refine HWn.out.mono ?_
          rintro e v2 ⟨rfl, rfl⟩
          go_wp2_with fail
          go_roundw
          case rel => exact ⟨i + 1, B, d, m, by omega, by go_num, rfl, HMK2.out, HMy.out, HWm.out, BFw5.out⟩
          case measure => simp [intOf]; omega
      subst her
      obtain ⟨hw8, hm8⟩ := hfd0.out (by first | rfl | trivial)
      have HM8 := hid hm8
      have HW8 := hid (hw8.trans HWm.out)
      have HWn := hid (HWE.out m' Al cl wf BF5.out HMx.out HM8.out)
      rw [HW8.out] at HWn
      clear hw8 hm8 hfd0
      as_aux_lemma =>
        go_wp2_with fail
        refine HWn.out.mono ?_
        rintro e v2 ⟨rfl, rfl⟩
        go_wp2_with fail
        go_roundw
        case rel => exact ⟨i + 1, Al, cl, m', by omega, by go_num, rfl, HM8.out, HMx.out, HW8.out, BFw5.out⟩
        case measure => simp [intOf]; omega
end Go.Proofs.YtbbogflibekgfaaDoor
