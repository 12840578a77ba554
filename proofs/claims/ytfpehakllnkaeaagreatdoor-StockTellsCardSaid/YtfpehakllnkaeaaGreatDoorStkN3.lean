
/- THE LAW: Right, Fits, Expired and Read return what the reference returns, and for right stocks so do all other functions: StockTells returns true for every input. Condition: the listed package-level variables of Go's library hold what its text lays; the card ties them. -/
import Derived.Test.YtfpehakllnkaeaaGreatDoorStkN2
import Derived.Test.YtfpehakllnkaeaaGreatDoorStkN1
import Derived.Deep.CutBlock
import Derived.Test.YtfpehakllnkaeaaGreatDoorCards
import Derived.Test.YtfpehakllnkaeaaGreatDoorTie
import Derived.Test.YtfpehakllnkaeaaGreatDoorOpen
import Derived.Test.YtfpehakllnkaeaaGreatDoorWireB
import Derived.LaidMore
import Derived.Stop.Joined
import Derived.Stop.LaidErr
import Derived.Lib.LaidTab
import Derived.Test.YtfpehakllnkaeaaGreatDoorStkA
set_option linter.unusedSimpArgs false
set_option linter.unusedVariables false
namespace Go.Proofs.YtfpehakllnkaeaaGreatDoor
open Go.RowKit Go.IntWalk

/-- Read's result, whether it was read or not. -/
def rkS (r : Option (List Kd × List Lt × List Bx)) : List Kd × List Lt × List Bx := r.getD ([], [], [])
theorem stkRes_form {w w' : World} {r : Option (List Kd × List Lt × List Bx)} {e : Ending} (h : StkRes w r e w') : ∃ A c B d C e0, e = .returned (.tuple #[.slice A (rkS r).1.length c, .slice B (rkS r).2.1.length d, .slice C (rkS r).2.2.length e0, .bool r.isSome]) ∧ SlR w' w'.heap.size A (rkS r).1 ∧ SlR w' w'.heap.size B (rkS r).2.1 ∧ SlR w' w'.heap.size C (rkS r).2.2 ∧ Below w.heap.size w w' := by
  cases r with
  | none =>
    obtain ⟨rfl, hB⟩ := h
    exact ⟨none, 0, none, 0, none, 0, rfl, SlR.nil, SlR.nil, SlR.nil, hB⟩
  | some x =>
    obtain ⟨A, c, B, d, C, e0, rfl, s1, s2, s3, _, hB⟩ := h
    exact ⟨A, c, B, d, C, e0, rfl, s1, s2, s3, hB⟩
theorem own_ints {w : World} {base : Nat} {v : Value} {l : List Nat} {N : Nat} (h : OwnI w base v (toI l)) (hb : ∀ i ∈ l, i < N) (hN : N ≤ 1000000) : ∃ A c, v = .slice A (toI l).length c ∧ SlR w w.heap.size A (toI l) := by
  obtain ⟨A, c, e, _, _, hs⟩ := h.slr (fun y hy => by
    unfold toI at hy
    obtain ⟨n, hn, rfl⟩ := List.mem_map.1 hy
    have := hb n hn
    exact ⟨by omega, by omega⟩)
  exact ⟨A, c, e, hs⟩
theorem few_kd {ks : List Kd} {lots : List Lt} {bs : List Bx} (h : fewS ks lots bs 20 = true) (hi : ∀ k ∈ ks, I64 k.2) : (ks.length ≤ 20 ∧ lots.length ≤ 20 ∧ bs.length ≤ 20) ∧ ∀ k ∈ ks, KdI k := by
  unfold fewS at h
  simp only [Bool.and_eq_true, decide_eq_true_eq, List.all_eq_true] at h
  refine ⟨⟨by omega, by omega, by omega⟩, fun k hk => ⟨?_, hi k hk⟩⟩
  have := h.1.1.1 k hk
  unfold fewK at this
  simp only [decide_eq_true_eq] at this
  omega
theorem box_lt {n : Int} {bs : List Bx} (h : bs.all (boxF n) = true) : ∀ b ∈ bs, b.1 < n := fun b hb => by
  have := List.all_eq_true.1 h b hb
  simp only [boxF, btw, Bool.and_eq_true, decide_eq_true_eq] at this
  omega
set_option maxRecDepth 100000 in
set_option maxHeartbeats 40000000 in
theorem stells_any (A B C D F : Option Addr) (c d e0 cD cF : Nat) (ks : List Kd) (lots : List Lt) (bxs : List Bx) (wants : List Wt) (takes : List Tk) (n : Int) (s : ByteArray) (w : World) (hk : ks.length ≤ maxLen) (hl : lots.length ≤ maxLen) (hb : bxs.length ≤ maxLen) (hwl : wants.length ≤ maxLen) (htl : takes.length ≤ maxLen)
    (h1 : SlR w w.heap.size A ks) (h2 : SlR w w.heap.size B lots) (h3 : SlR w w.heap.size C bxs) (h4 : SlR w w.heap.size D wants) (h5 : SlR w w.heap.size F takes) (he : Env w) :
    Calls Tryz.prog 3 #[.agg #[.slice A ks.length c, .slice B lots.length d, .slice C bxs.length e0], .slice D wants.length cD, .slice F takes.length cF, .int .i64 n, .string s] w fun e w' => e = .returned (.bool true) ∧ Below w.heap.size w w' := by
  have HK := hid hk; have HL := hid hl; have HB := hid hb
  have IK := hid (fun k hk => (kdRK.oks h1 k hk).2)
  have H4 := hid h4
  have HOB := hid h3
  clear hk hl hb
  obtain ⟨w1, hw1⟩ : ∃ w1, w1 = w.alloc (Obj.cells #[.slice A ks.length c, .slice B lots.length d, .slice C bxs.length e0] 26) := ⟨_, rfl⟩
  have B1 := hid (show Below w.heap.size w w1 by rw [hw1]; (repeat (first | exact Below.refl _ _ | assumption | refine below_drewN ?_ _ | refine Below.drew ?_ | refine Below.alloc ?_ (by (try simp); (try omega)) _ | refine Below.setCell ?_ (by (try simp); (try omega)) _)))
  have X1 := (show Blk w1 w.heap.size 26 #[.slice A ks.length c, .slice B lots.length d, .slice C bxs.length e0] by rw [hw1]; exact Blk.new w _ _)
  have HX := hid (fun (W' : World) (hW : Below w1.heap.size w1 W') => And.intro (show W'.cell? ⟨w.heap.size, 0, none⟩ = some (.slice A ks.length c) from (bcell hW _ _ X1.lt).trans (by rw [X1.cell]; rfl)) (And.intro (show W'.cell? ⟨w.heap.size, 1, none⟩ = some (.slice B lots.length d) from (bcell hW _ _ X1.lt).trans (by rw [X1.cell]; rfl)) (And.intro (show W'.cell? ⟨w.heap.size, 2, none⟩ = some (.slice C bxs.length e0) from (bcell hW _ _ X1.lt).trans (by rw [X1.cell]; rfl)) (Nat.lt_of_lt_of_le X1.lt hW.size))))
  have HUPW := hid (fun (W' : World) (hW : Below w1.heap.size w1 W') => B1.out.trans (hW.mono B1.out.size))
  have HS1 := hid (fun (W' : World) (hW : Below w1.heap.size w1 W') => show SlR W' W'.heap.size A ks from (h1.below (HUPW.out _ hW)).more (HUPW.out _ hW).size)
  have HS2 := hid (fun (W' : World) (hW : Below w1.heap.size w1 W') => show SlR W' W'.heap.size B lots from (h2.below (HUPW.out _ hW)).more (HUPW.out _ hW).size)
  have HS3 := hid (fun (W' : World) (hW : Below w1.heap.size w1 W') => show SlR W' W'.heap.size C bxs from (h3.below (HUPW.out _ hW)).more (HUPW.out _ hW).size)
  have HS4 := hid (fun (W' : World) (hW : Below w1.heap.size w1 W') => show SlR W' W'.heap.size D wants from (h4.below (HUPW.out _ hW)).more (HUPW.out _ hW).size)
  have HS5 := hid (fun (W' : World) (hW : Below w1.heap.size w1 W') => show SlR W' W'.heap.size F takes from (h5.below (HUPW.out _ hW)).more (HUPW.out _ hW).size)
  have HE := hid (fun (W' : World) (hW : Below w1.heap.size w1 W') => he.below (HUPW.out _ hW))
  have HSM := hid (ssmall_any w1)
  have HWM := hid hwl
  clear h1 h2 h3 h4 h5 X1 B1
  go_enter Tryz.func3, Tryz.ntmps3
  go_upto_region 1 with fail
  rw [← hw1]
  clear hw1
  unfold maxLen at hwl htl
  go_wp2_with fail
  refine HSM.out.mono ?_
  rintro e w2 ⟨rfl, hB⟩
  have B2 := hid hB
  clear hB HSM
  have HFW := hid (few_any A B C c d e0 ks lots bxs 20 (by omega) w2 HK.out HL.out HB.out (HS1.out _ B2.out))
  obtain ⟨x0, x1, x2, xz⟩ := HX.out w2 B2.out
  cases hfw : fewS ks lots bxs 20 with
  | false =>
    as_aux_lemma =>
      rw [hfw] at HFW
      clear hfw
      go_wp2_with fail
      refine HFW.out.mono ?_
      rintro e w3 ⟨rfl, hB⟩
      have B3 := hid (B2.out.trans (hB.mono B2.out.size))
      clear hB
      go_wp2_with fail
      go_ret
      exact ⟨rfl, HUPW.out _ B3.out⟩
  | true =>
  rw [hfw] at HFW
  obtain ⟨⟨n1, n2, n3⟩, hkd⟩ := few_kd hfw IK.out
  have N1 := hid n1; have N2 := hid n2; have N3 := hid n3; have HKD := hid hkd
  clear hfw n1 n2 n3 hkd
  by_cases q1 : (12 : Int) < wants.length
  case pos =>
    as_aux_lemma =>
      go_wp2_with fail
      refine HFW.out.mono ?_
      rintro e w3 ⟨rfl, hB⟩
      have B3 := hid (B2.out.trans (hB.mono B2.out.size))
      clear hB
      go_wp2_with fail
      go_ret
      exact ⟨rfl, HUPW.out _ B3.out⟩
  by_cases q2 : (20 : Int) < takes.length
  case pos =>
    as_aux_lemma =>
      go_wp2_with fail
      refine HFW.out.mono ?_
      rintro e w3 ⟨rfl, hB⟩
      have B3 := hid (B2.out.trans (hB.mono B2.out.size))
      clear hB
      go_wp2_with fail
      go_ret
      exact ⟨rfl, HUPW.out _ B3.out⟩
  by_cases q3 : (400 : Int) < s.size
  case pos =>
    as_aux_lemma =>
      go_wp2_with fail
      refine HFW.out.mono ?_
      rintro e w3 ⟨rfl, hB⟩
      have B3 := hid (B2.out.trans (hB.mono B2.out.size))
      clear hB
      go_wp2_with fail
      go_ret
      exact ⟨rfl, HUPW.out _ B3.out⟩
  go_wp2_with fail
  refine HFW.out.mono ?_
  rintro e w3 ⟨rfl, hB⟩
  have B3 := hid (B2.out.trans (hB.mono B2.out.size))
  clear hB HFW B2 x0 x1 x2 xz
  have HRD := hid ((sread_any s w3 (by omega) (HE.out _ B3.out)).mono (fun e w' h => stkRes_form h))
  obtain ⟨rd, hrd⟩ : ∃ r, r = readStk s.data.toList := ⟨_, rfl⟩
  have HRDE := hid hrd
  rw [← hrd] at HRD
  clear hrd
  have hs9 := hid (show s.size ≤ 90000 by omega)
  have w12 := hid (show wants.length ≤ 12 by omega)
  have t20 := hid (show takes.length ≤ 20 by omega)
  obtain ⟨Y1, hY1⟩ : ∃ x, x = (rkS rd).1 := ⟨_, rfl⟩
  obtain ⟨Y2, hY2⟩ : ∃ x, x = (rkS rd).2.1 := ⟨_, rfl⟩
  obtain ⟨Y3, hY3⟩ : ∃ x, x = (rkS rd).2.2 := ⟨_, rfl⟩
  obtain ⟨ok, hok⟩ : ∃ x, x = rd.isSome := ⟨_, rfl⟩
  rw [← hY1, ← hY2, ← hY3, ← hok] at HRD
  have HRD2 := hid (fun (W' : World) => show Calls Tryz.prog 7 #[.string s] W' (fun e w' => ∃ A c B d C e0, e = .returned (.tuple #[.slice A Y1.length c, .slice B Y2.length d, .slice C Y3.length e0, .bool ok]) ∧ SlR w' w'.heap.size A Y1 ∧ SlR w' w'.heap.size B Y2 ∧ SlR w' w'.heap.size C Y3 ∧ Below W'.heap.size W' w') by
    have := (rread_any s W' hs9.out).mono (fun e w' h => stkRes_form h)
    rw [refStk_eq, ← HRDE.out, ← hY1, ← hY2, ← hY3, ← hok] at this
    exact this)
  have ylen : Y1.length ≤ maxLen ∧ Y2.length ≤ maxLen ∧ Y3.length ≤ maxLen := by
    rw [hY1, hY2, hY3, HRDE.out]
    cases hrr : readStk s.data.toList with
    | none => exact ⟨Nat.zero_le _, Nat.zero_le _, Nat.zero_le _⟩
    | some x =>
      unfold readStk at hrr
      split at hrr
      · rename_i hc
        injection hrr with hrr
        have h5 := hc.2.1
        rw [hrr] at h5
        unfold rightS kindsF at h5
        simp only [Bool.and_eq_true, decide_eq_true_eq] at h5
        show x.1.length ≤ maxLen ∧ x.2.1.length ≤ maxLen ∧ x.2.2.length ≤ maxLen
        unfold maxLen
        omega
      · cases hrr
  have YL := hid ylen
  clear hY1 hY2 hY3 hok HRDE ylen
  go_wp2_with fail
  clear q1 q2 q3
  refine HRD.out.mono ?_
  rintro e w4 ⟨A1, a1, A2, a2, A3, a3, rfl, s1, s2, s3, hB⟩
  have B4 := hid (B3.out.trans (hB.mono B3.out.size))
  have S1 := hid s1; have S2 := hid s2; have S3 := hid s3
  clear hB HRD B3 s1 s2 s3
  go_wp2_with fail
  refine (HRD2.out w4).mono ?_
  rintro e w5 ⟨A4, a4, A5, a5, A6, a6, rfl, s4, s5, s6, hB⟩
  have B5 := hid (B4.out.trans (hB.mono B4.out.size))
  have S4 := hid s4; have S5 := hid s5; have S6 := hid s6
  replace S1 := hid ((S1.out.below hB).more hB.size)
  replace S2 := hid ((S2.out.below hB).more hB.size)
  replace S3 := hid ((S3.out.below hB).more hB.size)
  clear hB HRD2 B4 s4 s5 s6
  have HUP := hid (fun (wq : World) (hq : Below w5.heap.size w5 wq) => B5.out.trans (hq.mono B5.out.size))
  obtain ⟨rr, hrr⟩ : ∃ r, r = rightS ks lots bxs := ⟨_, rfl⟩
  have HSAM := hid (fun (W' : World) (hW : Below w5.heap.size w5 W') => show Calls Tryz.prog 8 #[.slice A1 Y1.length a1, .slice A2 Y2.length a2, .slice A3 Y3.length a3, .slice A4 Y1.length a4, .slice A5 Y2.length a5, .slice A6 Y3.length a6] W' (fun e w' => e = .returned (.bool true) ∧ Below W'.heap.size W' w') by
    have := same_any A1 A2 A3 A4 A5 A6 a1 a2 a3 a4 a5 a6 Y1 Y1 Y2 Y2 Y3 Y3 W' YL.out.1 YL.out.1 YL.out.2.1 YL.out.2.1 YL.out.2.2 YL.out.2.2 ((S1.out.below hW).more hW.size) ((S2.out.below hW).more hW.size) ((S3.out.below hW).more hW.size) ((S4.out.below hW).more hW.size) ((S5.out.below hW).more hW.size) ((S6.out.below hW).more hW.size)
    simpa using this)
  have HR1 := hid (fun (W' : World) (hW : Below w1.heap.size w1 W') => sright_any A B C c d e0 ks lots bxs W' (by have := N1.out; omega) HL.out HB.out (HS1.out _ hW) (HS2.out _ hW) (HS3.out _ hW))
  have HR2 := hid (fun (W' : World) (hW : Below w1.heap.size w1 W') => rsright_any A B C c d e0 ks lots bxs W' HK.out HL.out HB.out (HS1.out _ hW) (HS2.out _ hW) (HS3.out _ hW))
  rw [← hrr] at HR1 HR2
  have HRR := hid hrr
  clear hrr
  have hEX : ∀ i ∈ expK lots n lots.length, i < lots.length := fun i hi => by unfold expK at hi; have := List.mem_filter.1 hi; exact List.mem_range.1 this.1
  have HE1 := hid (fun (W' : World) (hW : Below w1.heap.size w1 W') => show Calls Tryz.prog 12 #[.slice B lots.length d, .int .i64 n] W' (fun e w' => ∃ v, e = .returned v ∧ ((∃ A c, v = .slice A (toI (expK lots n lots.length)).length c ∧ SlR w' w'.heap.size A (toI (expK lots n lots.length))) ∧ Below W'.heap.size W' w')) from
    (expired_any B d lots n W' (by have := N2.out; omega) (HS2.out _ hW)).mono fun e w' ⟨v, e1, e2, e3⟩ => ⟨v, e1, own_ints e2 hEX (by have := N2.out; omega), e3⟩)
  have HE2 := hid (fun (W' : World) (hW : Below w1.heap.size w1 W') => show Calls Tryz.prog 13 #[.slice B lots.length d, .int .i64 n] W' (fun e w' => ∃ v, e = .returned v ∧ ((∃ A c, v = .slice A (toI (expK lots n lots.length)).length c ∧ SlR w' w'.heap.size A (toI (expK lots n lots.length))) ∧ Below W'.heap.size W' w')) from
    (rexpired_any B d lots n W' (by have := N2.out; omega) (HS2.out _ hW)).mono fun e w' ⟨v, e1, e2, e3⟩ => ⟨v, e1, own_ints e2 hEX (by have := N2.out; omega), e3⟩)
  have hEL : (toI (expK lots n lots.length)).length ≤ maxLen := by
    have h7 : (expK lots n lots.length).length ≤ lots.length := by
      have := List.length_filter_le (fun i => decide ((lots.getD i (0, 0, false)).2.1 < n)) (List.range lots.length)
      simpa [expK] using this
    have := N2.out
    rw [toI_len]; unfold maxLen; omega
  generalize toI (expK lots n lots.length) = EE at *
  have HEL := hid hEL
  clear hEX hEL
  have HSF := hid (fun (wq : World) (hq : Below w5.heap.size w5 wq) => HX.out wq (HUP.out wq hq))
  have BD := hid ((Below.refl w5.heap.size w5).drew)
  go_upto_region 6 with fail
  refine wpIn_wide.1 (wpIn_region_S (n := 0) (fun wq => Below w5.heap.size w5 wq) [] (by kernel_rfl) BD.out (fun hHeld => ?_))
  generalize w5.drew = wd at *
  refine wpAnyG_pure 0 (v := ?_) (fun _ => trivial) (by simp only [List.getElem?_toArray, List.getElem?_cons_succ, List.getElem?_cons_zero]; rfl) (by kernel_rfl) (fun _ _ _ _ _ h => h) ⟨(by rfl), (by intro c h; cases h), ?_⟩ hHeld ?_
  rotate_left
  focus (intro wS hSw; (try replace hSw := HSF.out wS hSw); (try dsimp only at hSw); go_simp; (try with_reducible rfl))
  (try simp only [Act.put, List.setIfInBounds_toArray, List.set_cons_zero, List.set_cons_succ])
  refine wpAnyG_pure 1 (v := ?_) (fun _ => trivial) (by simp only [List.getElem?_toArray, List.getElem?_cons_succ, List.getElem?_cons_zero]; rfl) (by kernel_rfl) (fun _ _ _ _ _ h => h) ⟨(by rfl), (by intro c h; cases h), ?_⟩ hHeld ?_
  rotate_left
  focus (intro wS hSw; (try replace hSw := HSF.out wS hSw); (try dsimp only at hSw); go_simp; (try with_reducible rfl))
  (try simp only [Act.put, List.setIfInBounds_toArray, List.set_cons_zero, List.set_cons_succ])
  refine wpAnyG_pure 2 (v := ?_) (fun _ => trivial) (by simp only [List.getElem?_toArray, List.getElem?_cons_succ, List.getElem?_cons_zero]; rfl) (by kernel_rfl) (fun _ _ _ _ _ h => h) ⟨(by rfl), (by intro c h; cases h), ?_⟩ hHeld ?_
  rotate_left
  focus (intro wS hSw; (try replace hSw := HSF.out wS hSw); (try dsimp only at hSw); go_simp; (try with_reducible rfl))
  (try simp only [Act.put, List.setIfInBounds_toArray, List.set_cons_zero, List.set_cons_succ])
  refine wpAnyG_pure 3 (v := ?_) (fun _ => trivial) (by simp only [List.getElem?_toArray, List.getElem?_cons_succ, List.getElem?_cons_zero]; rfl) (by kernel_rfl) (fun _ _ _ _ _ h => h) ⟨(by rfl), (by intro c h; cases h), ?_⟩ hHeld ?_
  rotate_left
  focus (intro wS hSw; (try replace hSw := HSF.out wS hSw); (try dsimp only at hSw); go_simp; (try with_reducible rfl))
  (try simp only [Act.put, List.setIfInBounds_toArray, List.set_cons_zero, List.set_cons_succ])
  refine wpAnyG_pure 4 (v := ?_) (fun _ => trivial) (by simp only [List.getElem?_toArray, List.getElem?_cons_succ, List.getElem?_cons_zero]; rfl) (by kernel_rfl) (fun _ _ _ _ _ h => h) ⟨(by rfl), (by intro c h; cases h), ?_⟩ hHeld ?_
  rotate_left
  focus (intro wS hSw; (try replace hSw := HSF.out wS hSw); (try dsimp only at hSw); go_simp; (try with_reducible rfl))
  (try simp only [Act.put, List.setIfInBounds_toArray, List.set_cons_zero, List.set_cons_succ])
  refine wpAnyG_pure 5 (v := ?_) (fun _ => trivial) (by simp only [List.getElem?_toArray, List.getElem?_cons_succ, List.getElem?_cons_zero]; rfl) (by kernel_rfl) (fun _ _ _ _ _ h => h) ⟨(by rfl), (by intro c h; cases h), ?_⟩ hHeld ?_
  rotate_left
  focus (intro wS hSw; (try replace hSw := HSF.out wS hSw); (try dsimp only at hSw); go_simp; (try with_reducible rfl))
  (try simp only [Act.put, List.setIfInBounds_toArray, List.set_cons_zero, List.set_cons_succ])
  refine wpAnyG_pure 6 (v := ?_) (fun _ => trivial) (by simp only [List.getElem?_toArray, List.getElem?_cons_succ, List.getElem?_cons_zero]; rfl) (by kernel_rfl) (fun _ _ _ _ _ h => h) ⟨(by rfl), (by intro c h; cases h), ?_⟩ hHeld ?_
  rotate_left
  focus (intro wS hSw; (try replace hSw := HSF.out wS hSw); (try dsimp only at hSw); go_simp; (try with_reducible rfl))
  (try simp only [Act.put, List.setIfInBounds_toArray, List.set_cons_zero, List.set_cons_succ])
  refine wpAnyG_pure 7 (v := ?_) (fun _ => trivial) (by simp only [List.getElem?_toArray, List.getElem?_cons_succ, List.getElem?_cons_zero]; rfl) (by kernel_rfl) (fun _ _ _ _ _ h => h) ⟨(by rfl), (by intro c h; cases h), ?_⟩ hHeld ?_
  rotate_left
  focus (intro wS hSw; (try replace hSw := HSF.out wS hSw); (try dsimp only at hSw); go_simp; (try with_reducible rfl))
  (try simp only [Act.put, List.setIfInBounds_toArray, List.set_cons_zero, List.set_cons_succ])
  refine wpAnyG_pure 8 (v := ?_) (fun _ => trivial) (by simp only [List.getElem?_toArray, List.getElem?_cons_succ, List.getElem?_cons_zero]; rfl) (by kernel_rfl) (fun _ _ _ _ _ h => h) ⟨(by rfl), (by intro c h; cases h), ?_⟩ hHeld ?_
  rotate_left
  focus (intro wS hSw; (try replace hSw := HSF.out wS hSw); (try dsimp only at hSw); go_simp; (try with_reducible rfl))
  (try simp only [Act.put, List.setIfInBounds_toArray, List.set_cons_zero, List.set_cons_succ])
  refine wpAnyG_pure 9 (v := ?_) (fun _ => trivial) (by simp only [List.getElem?_toArray, List.getElem?_cons_succ, List.getElem?_cons_zero]; rfl) (by kernel_rfl) (fun _ _ _ _ _ h => h) ⟨(by rfl), (by intro c h; cases h), ?_⟩ hHeld ?_
  rotate_left
  focus (intro wS hSw; (try replace hSw := HSF.out wS hSw); (try dsimp only at hSw); go_simp; (try with_reducible rfl))
  (try simp only [Act.put, List.setIfInBounds_toArray, List.set_cons_zero, List.set_cons_succ])
  refine wpAnyS_ready [10] (by kernel_rfl) (by simp) (AllReadyS.consG (by simp only [List.getElem?_toArray, List.getElem?_cons_succ, List.getElem?_cons_zero]; rfl) (by rfl) (fun K hK => ?_) AllReadyS.nil)
  refine callS (by intro c h; cases h) (by go_simp; try with_reducible rfl) (HSAM.out _ BD.out) ?_
  intro v1 hBq
  have C1 := hid (BD.out.trans (hBq.mono BD.out.size))
  refine hK.out _ _ C1.out ?_
  (try simp only [Act.put, List.setIfInBounds_toArray, List.set_cons_zero, List.set_cons_succ])
  clear hK K hBq
  clear hHeld
  have hHeld := C1.out
  refine wpAnyG_pure 11 (v := ?_) (fun _ => trivial) (by simp only [List.getElem?_toArray, List.getElem?_cons_succ, List.getElem?_cons_zero]; rfl) (by kernel_rfl) (fun _ _ _ _ _ h => h) ⟨(by rfl), (by intro c h; cases h), ?_⟩ hHeld ?_
  rotate_left
  focus (intro wS hSw; (try replace hSw := HSF.out wS hSw); (try dsimp only at hSw); go_simp; (try with_reducible rfl))
  (try simp only [Act.put, List.setIfInBounds_toArray, List.set_cons_zero, List.set_cons_succ])
  refine wpAnyG_pure 12 (v := ?_) (fun _ => trivial) (by simp only [List.getElem?_toArray, List.getElem?_cons_succ, List.getElem?_cons_zero]; rfl) (by kernel_rfl) (fun _ _ _ _ _ h => h) ⟨(by rfl), (by intro c h; cases h), ?_⟩ hHeld ?_
  rotate_left
  focus (intro wS hSw; (try replace hSw := HSF.out wS hSw); (try dsimp only at hSw); go_simp; (try with_reducible rfl))
  (try simp only [Act.put, List.setIfInBounds_toArray, List.set_cons_zero, List.set_cons_succ])
  refine wpAnyG_pure 13 (v := ?_) (fun _ => trivial) (by simp only [List.getElem?_toArray, List.getElem?_cons_succ, List.getElem?_cons_zero]; rfl) (by kernel_rfl) (fun _ _ _ _ _ h => h) ⟨(by rfl), (by intro c h; cases h), ?_⟩ hHeld ?_
  rotate_left
  focus (intro wS hSw; (try replace hSw := HSF.out wS hSw); (try dsimp only at hSw); go_simp; (try with_reducible rfl))
  (try simp only [Act.put, List.setIfInBounds_toArray, List.set_cons_zero, List.set_cons_succ])
  refine wpAnyG_pure 14 (v := ?_) (fun _ => trivial) (by simp only [List.getElem?_toArray, List.getElem?_cons_succ, List.getElem?_cons_zero]; rfl) (by kernel_rfl) (fun _ _ _ _ _ h => h) ⟨(by rfl), (by intro c h; cases h), ?_⟩ hHeld ?_
  rotate_left
  focus (intro wS hSw; (try replace hSw := HSF.out wS hSw); (try dsimp only at hSw); go_simp; (try with_reducible rfl))
  (try simp only [Act.put, List.setIfInBounds_toArray, List.set_cons_zero, List.set_cons_succ])
  refine wpAnyG_take 15 (v := ?_) (fun _ => trivial) (by simp only [List.getElem?_toArray, List.getElem?_cons_succ, List.getElem?_cons_zero]; rfl) (by kernel_rfl) (fun _ _ _ _ _ h => h) ⟨(by rfl), (by intro c h; cases h), ?_⟩ hHeld ?_
  rotate_left
  focus (intro wS hSw; (try replace hSw := HSF.out wS hSw); (try dsimp only at hSw); go_simp; (try with_reducible rfl))
  (try simp only [Act.put, List.setIfInBounds_toArray, List.set_cons_zero, List.set_cons_succ])
  refine wpAnyG_pure 16 (v := ?_) (fun _ => trivial) (by simp only [List.getElem?_toArray, List.getElem?_cons_succ, List.getElem?_cons_zero]; rfl) (by kernel_rfl) (fun _ _ _ _ _ h => h) ⟨(by rfl), (by intro c h; cases h), ?_⟩ hHeld ?_
  rotate_left
  focus (intro wS hSw; (try replace hSw := HSF.out wS hSw); (try dsimp only at hSw); go_simp; (try with_reducible rfl))
  (try simp only [Act.put, List.setIfInBounds_toArray, List.set_cons_zero, List.set_cons_succ])
  refine wpAnyG_take 17 (v := ?_) (fun _ => trivial) (by simp only [List.getElem?_toArray, List.getElem?_cons_succ, List.getElem?_cons_zero]; rfl) (by kernel_rfl) (fun _ _ _ _ _ h => h) ⟨(by rfl), (by intro c h; cases h), ?_⟩ hHeld ?_
  rotate_left
  focus (intro wS hSw; (try replace hSw := HSF.out wS hSw); (try dsimp only at hSw); go_simp; (try with_reducible rfl))
  (try simp only [Act.put, List.setIfInBounds_toArray, List.set_cons_zero, List.set_cons_succ])
  refine wpAnyG_pure 18 (v := ?_) (fun _ => trivial) (by simp only [List.getElem?_toArray, List.getElem?_cons_succ, List.getElem?_cons_zero]; rfl) (by kernel_rfl) (fun _ _ _ _ _ h => h) ⟨(by rfl), (by intro c h; cases h), ?_⟩ hHeld ?_
  rotate_left
  focus (intro wS hSw; (try replace hSw := HSF.out wS hSw); (try dsimp only at hSw); go_simp; (try with_reducible rfl))
  (try simp only [Act.put, List.setIfInBounds_toArray, List.set_cons_zero, List.set_cons_succ])
  refine wpAnyG_take 19 (v := ?_) (fun _ => trivial) (by simp only [List.getElem?_toArray, List.getElem?_cons_succ, List.getElem?_cons_zero]; rfl) (by kernel_rfl) (fun _ _ _ _ _ h => h) ⟨(by rfl), (by intro c h; cases h), ?_⟩ hHeld ?_
  rotate_left
  focus (intro wS hSw; (try replace hSw := HSF.out wS hSw); (try dsimp only at hSw); go_simp; (try with_reducible rfl))
  (try simp only [Act.put, List.setIfInBounds_toArray, List.set_cons_zero, List.set_cons_succ])
  refine wpAnyG_pure 21 (v := ?_) (fun _ => trivial) (by simp only [List.getElem?_toArray, List.getElem?_cons_succ, List.getElem?_cons_zero]; rfl) (by kernel_rfl) (fun _ _ _ _ _ h => h) ⟨(by rfl), (by intro c h; cases h), ?_⟩ hHeld ?_
  rotate_left
  focus (intro wS hSw; (try replace hSw := HSF.out wS hSw); (try dsimp only at hSw); go_simp; (try with_reducible rfl))
  (try simp only [Act.put, List.setIfInBounds_toArray, List.set_cons_zero, List.set_cons_succ])
  refine wpAnyG_take 22 (v := ?_) (fun _ => trivial) (by simp only [List.getElem?_toArray, List.getElem?_cons_succ, List.getElem?_cons_zero]; rfl) (by kernel_rfl) (fun _ _ _ _ _ h => h) ⟨(by rfl), (by intro c h; cases h), ?_⟩ hHeld ?_
  rotate_left
  focus (intro wS hSw; (try replace hSw := HSF.out wS hSw); (try dsimp only at hSw); go_simp; (try with_reducible rfl))
  (try simp only [Act.put, List.setIfInBounds_toArray, List.set_cons_zero, List.set_cons_succ])
  refine wpAnyG_pure 23 (v := ?_) (fun _ => trivial) (by simp only [List.getElem?_toArray, List.getElem?_cons_succ, List.getElem?_cons_zero]; rfl) (by kernel_rfl) (fun _ _ _ _ _ h => h) ⟨(by rfl), (by intro c h; cases h), ?_⟩ hHeld ?_
  rotate_left
  focus (intro wS hSw; (try replace hSw := HSF.out wS hSw); (try dsimp only at hSw); go_simp; (try with_reducible rfl))
  (try simp only [Act.put, List.setIfInBounds_toArray, List.set_cons_zero, List.set_cons_succ])
  refine wpAnyG_take 24 (v := ?_) (fun _ => trivial) (by simp only [List.getElem?_toArray, List.getElem?_cons_succ, List.getElem?_cons_zero]; rfl) (by kernel_rfl) (fun _ _ _ _ _ h => h) ⟨(by rfl), (by intro c h; cases h), ?_⟩ hHeld ?_
  rotate_left
  focus (intro wS hSw; (try replace hSw := HSF.out wS hSw); (try dsimp only at hSw); go_simp; (try with_reducible rfl))
  (try simp only [Act.put, List.setIfInBounds_toArray, List.set_cons_zero, List.set_cons_succ])
  refine wpAnyG_pure 25 (v := ?_) (fun _ => trivial) (by simp only [List.getElem?_toArray, List.getElem?_cons_succ, List.getElem?_cons_zero]; rfl) (by kernel_rfl) (fun _ _ _ _ _ h => h) ⟨(by rfl), (by intro c h; cases h), ?_⟩ hHeld ?_
  rotate_left
  focus (intro wS hSw; (try replace hSw := HSF.out wS hSw); (try dsimp only at hSw); go_simp; (try with_reducible rfl))
  (try simp only [Act.put, List.setIfInBounds_toArray, List.set_cons_zero, List.set_cons_succ])
  refine wpAnyG_take 26 (v := ?_) (fun _ => trivial) (by simp only [List.getElem?_toArray, List.getElem?_cons_succ, List.getElem?_cons_zero]; rfl) (by kernel_rfl) (fun _ _ _ _ _ h => h) ⟨(by rfl), (by intro c h; cases h), ?_⟩ hHeld ?_
  rotate_left
  focus (intro wS hSw; (try replace hSw := HSF.out wS hSw); (try dsimp only at hSw); go_simp; (try with_reducible rfl))
  (try simp only [Act.put, List.setIfInBounds_toArray, List.set_cons_zero, List.set_cons_succ])
  refine wpAnyS_ready [20] (by kernel_rfl) (by simp) (AllReadyS.consG (by simp only [List.getElem?_toArray, List.getElem?_cons_succ, List.getElem?_cons_zero]; rfl) (by rfl) (fun K hK => ?_) AllReadyS.nil)
  refine callS (by intro c h; cases h) (by go_simp; try with_reducible rfl) (HR1.out _ (HUP.out _ C1.out)) ?_
  intro v2 hBq
  have C2 := hid (C1.out.trans (hBq.mono C1.out.size))
  refine hK.out _ _ C2.out ?_
  (try simp only [Act.put, List.setIfInBounds_toArray, List.set_cons_zero, List.set_cons_succ])
  clear hK K hBq
  clear hHeld
  have hHeld := C2.out
  refine wpAnyS_ready [27] (by kernel_rfl) (by simp) (AllReadyS.consG (by simp only [List.getElem?_toArray, List.getElem?_cons_succ, List.getElem?_cons_zero]; rfl) (by rfl) (fun K hK => ?_) AllReadyS.nil)
  refine callS (by intro c h; cases h) (by go_simp; try with_reducible rfl) (HR2.out _ (HUP.out _ C2.out)) ?_
  intro v3 hBq
  have C3 := hid (C2.out.trans (hBq.mono C2.out.size))
  refine hK.out _ _ C3.out ?_
  (try simp only [Act.put, List.setIfInBounds_toArray, List.set_cons_zero, List.set_cons_succ])
  clear hK K hBq
  clear hHeld
  have hHeld := C3.out
  refine wpAnyG_pure 28 (v := ?_) (fun _ => trivial) (by simp only [List.getElem?_toArray, List.getElem?_cons_succ, List.getElem?_cons_zero]; rfl) (by kernel_rfl) (fun _ _ _ _ _ h => h) ⟨(by rfl), (by intro c h; cases h), ?_⟩ hHeld ?_
  rotate_left
  focus (intro wS hSw; (try replace hSw := HSF.out wS hSw); (try dsimp only at hSw); go_simp; (try with_reducible rfl))
  (try simp only [Act.put, List.setIfInBounds_toArray, List.set_cons_zero, List.set_cons_succ])
  refine wpAnyG_pure 29 (v := ?_) (fun _ => trivial) (by simp only [List.getElem?_toArray, List.getElem?_cons_succ, List.getElem?_cons_zero]; rfl) (by kernel_rfl) (fun _ _ _ _ _ h => h) ⟨(by rfl), (by intro c h; cases h), ?_⟩ hHeld ?_
  rotate_left
  focus (intro wS hSw; (try replace hSw := HSF.out wS hSw); (try dsimp only at hSw); go_simp; (try with_reducible rfl))
  (try simp only [Act.put, List.setIfInBounds_toArray, List.set_cons_zero, List.set_cons_succ])
  refine wpAnyG_pure 30 (v := ?_) (fun _ => trivial) (by simp only [List.getElem?_toArray, List.getElem?_cons_succ, List.getElem?_cons_zero]; rfl) (by kernel_rfl) (fun _ _ _ _ _ h => h) ⟨(by rfl), (by intro c h; cases h), ?_⟩ hHeld ?_
  rotate_left
  focus (intro wS hSw; (try replace hSw := HSF.out wS hSw); (try dsimp only at hSw); go_simp; (try with_reducible rfl))
  (try simp only [Act.put, List.setIfInBounds_toArray, List.set_cons_zero, List.set_cons_succ])
  refine wpAnyG_pure 31 (v := ?_) (fun _ => trivial) (by simp only [List.getElem?_toArray, List.getElem?_cons_succ, List.getElem?_cons_zero]; rfl) (by kernel_rfl) (fun _ _ _ _ _ h => h) ⟨(by rfl), (by intro c h; cases h), ?_⟩ hHeld ?_
  rotate_left
  focus (intro wS hSw; (try replace hSw := HSF.out wS hSw); (try dsimp only at hSw); go_simp; (try with_reducible rfl))
  (try simp only [Act.put, List.setIfInBounds_toArray, List.set_cons_zero, List.set_cons_succ])
  refine wpAnyG_take 32 (v := ?_) (fun _ => trivial) (by simp only [List.getElem?_toArray, List.getElem?_cons_succ, List.getElem?_cons_zero]; rfl) (by kernel_rfl) (fun _ _ _ _ _ h => h) ⟨(by rfl), (by intro c h; cases h), ?_⟩ hHeld ?_
  rotate_left
  focus (intro wS hSw; (try replace hSw := HSF.out wS hSw); (try dsimp only at hSw); go_simp; (try with_reducible rfl))
  (try simp only [Act.put, List.setIfInBounds_toArray, List.set_cons_zero, List.set_cons_succ])
  refine wpAnyG_pure 33 (v := ?_) (fun _ => trivial) (by simp only [List.getElem?_toArray, List.getElem?_cons_succ, List.getElem?_cons_zero]; rfl) (by kernel_rfl) (fun _ _ _ _ _ h => h) ⟨(by rfl), (by intro c h; cases h), ?_⟩ hHeld ?_
  rotate_left
  focus (intro wS hSw; (try replace hSw := HSF.out wS hSw); (try dsimp only at hSw); go_simp; (try with_reducible rfl))
  (try simp only [Act.put, List.setIfInBounds_toArray, List.set_cons_zero, List.set_cons_succ])
  refine wpAnyG_pure 35 (v := ?_) (fun _ => trivial) (by simp only [List.getElem?_toArray, List.getElem?_cons_succ, List.getElem?_cons_zero]; rfl) (by kernel_rfl) (fun _ _ _ _ _ h => h) ⟨(by rfl), (by intro c h; cases h), ?_⟩ hHeld ?_
  rotate_left
  focus (intro wS hSw; (try replace hSw := HSF.out wS hSw); (try dsimp only at hSw); go_simp; (try with_reducible rfl))
  (try simp only [Act.put, List.setIfInBounds_toArray, List.set_cons_zero, List.set_cons_succ])
  refine wpAnyG_take 36 (v := ?_) (fun _ => trivial) (by simp only [List.getElem?_toArray, List.getElem?_cons_succ, List.getElem?_cons_zero]; rfl) (by kernel_rfl) (fun _ _ _ _ _ h => h) ⟨(by rfl), (by intro c h; cases h), ?_⟩ hHeld ?_
  rotate_left
  focus (intro wS hSw; (try replace hSw := HSF.out wS hSw); (try dsimp only at hSw); go_simp; (try with_reducible rfl))
  (try simp only [Act.put, List.setIfInBounds_toArray, List.set_cons_zero, List.set_cons_succ])
  refine wpAnyG_pure 37 (v := ?_) (fun _ => trivial) (by simp only [List.getElem?_toArray, List.getElem?_cons_succ, List.getElem?_cons_zero]; rfl) (by kernel_rfl) (fun _ _ _ _ _ h => h) ⟨(by rfl), (by intro c h; cases h), ?_⟩ hHeld ?_
  rotate_left
  focus (intro wS hSw; (try replace hSw := HSF.out wS hSw); (try dsimp only at hSw); go_simp; (try with_reducible rfl))
  (try simp only [Act.put, List.setIfInBounds_toArray, List.set_cons_zero, List.set_cons_succ])
  refine wpAnyS_ready [34] (by kernel_rfl) (by simp) (AllReadyS.consG (by simp only [List.getElem?_toArray, List.getElem?_cons_succ, List.getElem?_cons_zero]; rfl) (by rfl) (fun K hK => ?_) AllReadyS.nil)
  refine callV (by intro c h; cases h) (by go_simp; try with_reducible rfl) (HE1.out _ (HUP.out _ C3.out)) ?_
  intro v34 v4 hR
  obtain ⟨⟨A7, a7, rfl, hS7⟩, hBq⟩ := hR
  have S7 := hid hS7
  have C4 := hid (C3.out.trans (hBq.mono C3.out.size))
  have D34 := hid hBq
  refine hK.out _ _ C4.out ?_
  (try simp only [Act.put, List.setIfInBounds_toArray, List.set_cons_zero, List.set_cons_succ])
  clear hK K hBq hS7
  clear hHeld
  have hHeld := C4.out
  refine wpAnyS_ready [38] (by kernel_rfl) (by simp) (AllReadyS.consG (by simp only [List.getElem?_toArray, List.getElem?_cons_succ, List.getElem?_cons_zero]; rfl) (by rfl) (fun K hK => ?_) AllReadyS.nil)
  refine callV (by intro c h; cases h) (by go_simp; try with_reducible rfl) (HE2.out _ (HUP.out _ C4.out)) ?_
  intro v38 v5 hR
  obtain ⟨⟨A8, a8, rfl, hS8⟩, hBq⟩ := hR
  have S8 := hid hS8
  have C5 := hid (C4.out.trans (hBq.mono C4.out.size))
  have D38 := hid hBq
  refine hK.out _ _ C5.out ?_
  (try simp only [Act.put, List.setIfInBounds_toArray, List.set_cons_zero, List.set_cons_succ])
  clear hK K hBq hS8
  clear hHeld
  have hHeld := C5.out
  have HIN := hid (show Calls Tryz.prog 11 #[.slice A7 EE.length a7, .slice A8 EE.length a8] v5 (fun e w' => e = .returned (.bool true) ∧ Below v5.heap.size v5 w') by
    have := rints_any A7 A8 a7 a8 EE EE v5 HEL.out HEL.out ((S7.out.below D38.out).more D38.out.size) S8.out
    rwa [decide_eq_true rfl] at this)
  refine wpAnyS_ready [39] (by kernel_rfl) (by simp) (AllReadyS.consG (by simp only [List.getElem?_toArray, List.getElem?_cons_succ, List.getElem?_cons_zero]; rfl) (by rfl) (fun K hK => ?_) AllReadyS.nil)
  refine callS (by intro c h; cases h) (by go_simp; try with_reducible rfl) (HIN.out) ?_
  intro v6 hBq
  have C6 := hid (C5.out.trans (hBq.mono C5.out.size))
  refine hK.out _ _ C6.out ?_
  (try simp only [Act.put, List.setIfInBounds_toArray, List.set_cons_zero, List.set_cons_succ])
  clear hK K hBq
  clear hHeld
  have hHeld := C6.out
  refine wpAnyG_pure 40 (v := ?_) (fun _ => trivial) (by simp only [List.getElem?_toArray, List.getElem?_cons_succ, List.getElem?_cons_zero]; rfl) (by kernel_rfl) (fun _ _ _ _ _ h => h) ⟨(by rfl), (by intro c h; cases h), ?_⟩ hHeld ?_
  rotate_left
  focus (intro wS hSw; (try replace hSw := HSF.out wS hSw); (try dsimp only at hSw); go_simp; (try with_reducible rfl))
  (try simp only [Act.put, List.setIfInBounds_toArray, List.set_cons_zero, List.set_cons_succ])
  refine wpAnyG_pure 41 (v := ?_) (fun _ => trivial) (by simp only [List.getElem?_toArray, List.getElem?_cons_succ, List.getElem?_cons_zero]; rfl) (by kernel_rfl) (fun _ _ _ _ _ h => h) ⟨(by rfl), (by intro c h; cases h), ?_⟩ hHeld ?_
  rotate_left
  focus (intro wS hSw; (try replace hSw := HSF.out wS hSw); (try dsimp only at hSw); go_simp; (try with_reducible rfl))
  (try simp only [Act.put, List.setIfInBounds_toArray, List.set_cons_zero, List.set_cons_succ])
  refine wpAnyS_done (by kernel_rfl) ?_
  have B6 := hid (HUP.out _ C6.out)
  clear hHeld HIN HSF HUP BD C1 C2 C3 C4 C5 C6 S1 S2 S3 S4 S5 S6 S7 S8 D34 D38 HE1 HE2 HEL HSAM HR1 B5
  generalize v6 = w6 at *
  go_upto_block 0 with fail
  go_cut [] (fun wx => Below w1.heap.size w1 wx)
  case first =>
    as_aux_lemma =>
      go_wp2_with fail
      go_loopw [20] (fun i wr => ∃ k : Nat, k ≤ wants.length ∧ i = .int .i64 k ∧ Below w1.heap.size w1 wr) (fun i _ => wants.length - (intOf i).toNat)
      case atStart => exact ⟨0, by omega, rfl, B6.out⟩
      case round =>
        clear B6
        obtain ⟨k, hk, rfl, hB⟩ := hrel
        have HBk := hid hB
        clear hB
        by_cases hlt : k < wants.length
        case neg =>
          obtain rfl : k = wants.length := by omega
          go_wp2_with fail
          go_meet
          exact HBk.out
        case pos =>
        have hltI : (k : Int) < wants.length := by omega
        obtain ⟨bw, ow, rfl, hbw, u0, u1, u2, -⟩ := H4.out.i3 hlt
        have HWC := hid (fun (W' : World) (hW : Below w1.heap.size w1 W') => And.intro ((bcell (HUPW.out _ hW) bw _ hbw).trans u0) (And.intro ((bcell (HUPW.out _ hW) bw _ hbw).trans u1) (And.intro ((bcell (HUPW.out _ hW) bw _ hbw).trans u2) (show bw < W'.heap.size by have := (HUPW.out _ hW).size; omega))))
        clear u0 u1 u2
        generalize wants[k] = x at *
        obtain ⟨wk, wn, wu⟩ := x
        simp only at HWC
        go_wp2_with fail
        go_loopw [21] (fun i wr => ∃ j : Nat, j ≤ lots.length ∧ i = .int .i64 j ∧ Below w1.heap.size w1 wr) (fun i _ => lots.length - (intOf i).toNat)
        case atStart => exact ⟨0, by omega, rfl, HBk.out⟩
        case round =>
          clear HBk
          obtain ⟨j, hj, rfl, hB⟩ := hrel
          have HBj := hid hB
          clear hB
          obtain ⟨x0, x1, x2, xz⟩ := HX.out wr HBj.out
          by_cases hjl : j < lots.length
          case neg =>
            obtain rfl : j = lots.length := by omega
            as_aux_lemma =>
              go_wp2_with fail
              go_roundw
              case rel => exact ⟨k + 1, by omega, by go_num, HBj.out⟩
              case measure => simp [intOf]; omega
          case pos =>
          have hl20 := N2.out
          have hjI : (j : Int) < lots.length := by omega
          obtain ⟨bl, ol, rfl, hbl, l0, l1, l2, -, -⟩ := (HS2.out wr HBj.out).lt hjl
          obtain ⟨u0, u1, u2, uz⟩ := HWC.out wr HBj.out
          generalize lots[j] = y at *
          obtain ⟨lk, le, lf⟩ := y
          simp only at l0 l1 l2
          have HF1 := hid (fun (W' : World) => sfits_any (lk, le, lf) (wk, wn, wu) W')
          have HF2 := hid (fun (W' : World) => rfits_any (lk, le, lf) (wk, wn, wu) W')
          generalize fitF (lk, le, lf) (wk, wn, wu) = ff at *
          have HSF := hid (fun (wq : World) (hq : Below wr.heap.size wr wq) => And.intro ((bcell hq _ _ xz).trans x1) (And.intro ((bcell hq _ _ hbl).trans l0) (And.intro ((bcell hq _ _ hbl).trans l1) (And.intro ((bcell hq _ _ hbl).trans l2) (And.intro ((bcell hq _ _ uz).trans u0) (And.intro ((bcell hq _ _ uz).trans u1) ((bcell hq _ _ uz).trans u2)))))))
          have BD := hid ((Below.refl wr.heap.size wr).drew)
          clear x0 x2 l0 l1 l2 u0 u1 u2
          as_aux_lemma =>
            go_upto_region 14 with fail
            refine wpIn_wide.1 (wpIn_region_S (n := 0) (fun wq => Below wr.heap.size wr wq) [] (by kernel_rfl) BD.out (fun hHeld => ?_))
            generalize wr.drew = wd at *
            clear x1
            refine wpAnyG_pure 0 (v := ?_) (fun _ => trivial) (by simp only [List.getElem?_toArray, List.getElem?_cons_succ, List.getElem?_cons_zero]; rfl) (by kernel_rfl) (fun _ _ _ _ _ h => h) ⟨(by rfl), (by intro c h; cases h), ?_⟩ hHeld ?_
            rotate_left
            focus (intro wS hSw; (try replace hSw := HSF.out wS hSw); (try dsimp only at hSw); go_simp; (try with_reducible rfl))
            (try simp only [Act.put, List.setIfInBounds_toArray, List.set_cons_zero, List.set_cons_succ])
            refine wpAnyG_take 1 (v := ?_) (fun _ => trivial) (by simp only [List.getElem?_toArray, List.getElem?_cons_succ, List.getElem?_cons_zero]; rfl) (by kernel_rfl) (fun _ _ _ _ _ h => h) ⟨(by rfl), (by intro c h; cases h), ?_⟩ hHeld ?_
            rotate_left
            focus (intro wS hSw; (try replace hSw := HSF.out wS hSw); (try dsimp only at hSw); go_simp; (try with_reducible rfl))
            (try simp only [Act.put, List.setIfInBounds_toArray, List.set_cons_zero, List.set_cons_succ])
            refine wpAnyG_pure 2 (v := ?_) (fun _ => trivial) (by simp only [List.getElem?_toArray, List.getElem?_cons_succ, List.getElem?_cons_zero]; rfl) (by kernel_rfl) (fun _ _ _ _ _ h => h) ⟨(by rfl), (by intro c h; cases h), ?_⟩ hHeld ?_
            rotate_left
            focus (intro wS hSw; (try replace hSw := HSF.out wS hSw); (try dsimp only at hSw); go_simp; (try with_reducible rfl))
            (try simp only [Act.put, List.setIfInBounds_toArray, List.set_cons_zero, List.set_cons_succ])
            refine wpAnyG_pure 3 (v := ?_) (fun _ => trivial) (by simp only [List.getElem?_toArray, List.getElem?_cons_succ, List.getElem?_cons_zero]; rfl) (by kernel_rfl) (fun _ _ _ _ _ h => h) ⟨(by rfl), (by intro c h; cases h), ?_⟩ hHeld ?_
            rotate_left
            focus (intro wS hSw; (try replace hSw := HSF.out wS hSw); (try dsimp only at hSw); go_simp; (try with_reducible rfl))
            (try simp only [Act.put, List.setIfInBounds_toArray, List.set_cons_zero, List.set_cons_succ])
            refine wpAnyG_take 4 (v := ?_) (fun _ => trivial) (by simp only [List.getElem?_toArray, List.getElem?_cons_succ, List.getElem?_cons_zero]; rfl) (by kernel_rfl) (fun _ _ _ _ _ h => h) ⟨(by rfl), (by intro c h; cases h), ?_⟩ hHeld ?_
            rotate_left
            focus (intro wS hSw; (try replace hSw := HSF.out wS hSw); (try dsimp only at hSw); go_simp; (try with_reducible rfl))
            (try simp only [Act.put, List.setIfInBounds_toArray, List.set_cons_zero, List.set_cons_succ])
            refine wpAnyG_pure 5 (v := ?_) (fun _ => trivial) (by simp only [List.getElem?_toArray, List.getElem?_cons_succ, List.getElem?_cons_zero]; rfl) (by kernel_rfl) (fun _ _ _ _ _ h => h) ⟨(by rfl), (by intro c h; cases h), ?_⟩ hHeld ?_
            rotate_left
            focus (intro wS hSw; (try replace hSw := HSF.out wS hSw); (try dsimp only at hSw); go_simp; (try with_reducible rfl))
            (try simp only [Act.put, List.setIfInBounds_toArray, List.set_cons_zero, List.set_cons_succ])
            refine wpAnyG_pure 6 (v := ?_) (fun _ => trivial) (by simp only [List.getElem?_toArray, List.getElem?_cons_succ, List.getElem?_cons_zero]; rfl) (by kernel_rfl) (fun _ _ _ _ _ h => h) ⟨(by rfl), (by intro c h; cases h), ?_⟩ hHeld ?_
            rotate_left
            focus (intro wS hSw; (try replace hSw := HSF.out wS hSw); (try dsimp only at hSw); go_simp; (try with_reducible rfl))
            (try simp only [Act.put, List.setIfInBounds_toArray, List.set_cons_zero, List.set_cons_succ])
            refine wpAnyG_pure 7 (v := ?_) (fun _ => trivial) (by simp only [List.getElem?_toArray, List.getElem?_cons_succ, List.getElem?_cons_zero]; rfl) (by kernel_rfl) (fun _ _ _ _ _ h => h) ⟨(by rfl), (by intro c h; cases h), ?_⟩ hHeld ?_
            rotate_left
            focus (intro wS hSw; (try replace hSw := HSF.out wS hSw); (try dsimp only at hSw); go_simp; (try with_reducible rfl))
            (try simp only [Act.put, List.setIfInBounds_toArray, List.set_cons_zero, List.set_cons_succ])
            refine wpAnyG_take 8 (v := ?_) (fun _ => trivial) (by simp only [List.getElem?_toArray, List.getElem?_cons_succ, List.getElem?_cons_zero]; rfl) (by kernel_rfl) (fun _ _ _ _ _ h => h) ⟨(by rfl), (by intro c h; cases h), ?_⟩ hHeld ?_
            rotate_left
            focus (intro wS hSw; (try replace hSw := HSF.out wS hSw); (try dsimp only at hSw); go_simp; (try with_reducible rfl))
            (try simp only [Act.put, List.setIfInBounds_toArray, List.set_cons_zero, List.set_cons_succ])
            refine wpAnyG_pure 10 (v := ?_) (fun _ => trivial) (by simp only [List.getElem?_toArray, List.getElem?_cons_succ, List.getElem?_cons_zero]; rfl) (by kernel_rfl) (fun _ _ _ _ _ h => h) ⟨(by rfl), (by intro c h; cases h), ?_⟩ hHeld ?_
            rotate_left
            focus (intro wS hSw; (try replace hSw := HSF.out wS hSw); (try dsimp only at hSw); go_simp; (try with_reducible rfl))
            (try simp only [Act.put, List.setIfInBounds_toArray, List.set_cons_zero, List.set_cons_succ])
            refine wpAnyG_take 11 (v := ?_) (fun _ => trivial) (by simp only [List.getElem?_toArray, List.getElem?_cons_succ, List.getElem?_cons_zero]; rfl) (by kernel_rfl) (fun _ _ _ _ _ h => h) ⟨(by rfl), (by intro c h; cases h), ?_⟩ hHeld ?_
            rotate_left
            focus (intro wS hSw; (try replace hSw := HSF.out wS hSw); (try dsimp only at hSw); go_simp; (try with_reducible rfl))
            (try simp only [Act.put, List.setIfInBounds_toArray, List.set_cons_zero, List.set_cons_succ])
            refine wpAnyG_pure 12 (v := ?_) (fun _ => trivial) (by simp only [List.getElem?_toArray, List.getElem?_cons_succ, List.getElem?_cons_zero]; rfl) (by kernel_rfl) (fun _ _ _ _ _ h => h) ⟨(by rfl), (by intro c h; cases h), ?_⟩ hHeld ?_
            rotate_left
            focus (intro wS hSw; (try replace hSw := HSF.out wS hSw); (try dsimp only at hSw); go_simp; (try with_reducible rfl))
            (try simp only [Act.put, List.setIfInBounds_toArray, List.set_cons_zero, List.set_cons_succ])
            refine wpAnyG_pure 13 (v := ?_) (fun _ => trivial) (by simp only [List.getElem?_toArray, List.getElem?_cons_succ, List.getElem?_cons_zero]; rfl) (by kernel_rfl) (fun _ _ _ _ _ h => h) ⟨(by rfl), (by intro c h; cases h), ?_⟩ hHeld ?_
            rotate_left
            focus (intro wS hSw; (try replace hSw := HSF.out wS hSw); (try dsimp only at hSw); go_simp; (try with_reducible rfl))
            (try simp only [Act.put, List.setIfInBounds_toArray, List.set_cons_zero, List.set_cons_succ])
            refine wpAnyG_take 14 (v := ?_) (fun _ => trivial) (by simp only [List.getElem?_toArray, List.getElem?_cons_succ, List.getElem?_cons_zero]; rfl) (by kernel_rfl) (fun _ _ _ _ _ h => h) ⟨(by rfl), (by intro c h; cases h), ?_⟩ hHeld ?_
            rotate_left
            focus (intro wS hSw; (try replace hSw := HSF.out wS hSw); (try dsimp only at hSw); go_simp; (try with_reducible rfl))
            (try simp only [Act.put, List.setIfInBounds_toArray, List.set_cons_zero, List.set_cons_succ])
            refine wpAnyG_pure 15 (v := ?_) (fun _ => trivial) (by simp only [List.getElem?_toArray, List.getElem?_cons_succ, List.getElem?_cons_zero]; rfl) (by kernel_rfl) (fun _ _ _ _ _ h => h) ⟨(by rfl), (by intro c h; cases h), ?_⟩ hHeld ?_
            rotate_left
            focus (intro wS hSw; (try replace hSw := HSF.out wS hSw); (try dsimp only at hSw); go_simp; (try with_reducible rfl))
            (try simp only [Act.put, List.setIfInBounds_toArray, List.set_cons_zero, List.set_cons_succ])
            refine wpAnyG_pure 16 (v := ?_) (fun _ => trivial) (by simp only [List.getElem?_toArray, List.getElem?_cons_succ, List.getElem?_cons_zero]; rfl) (by kernel_rfl) (fun _ _ _ _ _ h => h) ⟨(by rfl), (by intro c h; cases h), ?_⟩ hHeld ?_
            rotate_left
            focus (intro wS hSw; (try replace hSw := HSF.out wS hSw); (try dsimp only at hSw); go_simp; (try with_reducible rfl))
            (try simp only [Act.put, List.setIfInBounds_toArray, List.set_cons_zero, List.set_cons_succ])
            refine wpAnyG_pure 17 (v := ?_) (fun _ => trivial) (by simp only [List.getElem?_toArray, List.getElem?_cons_succ, List.getElem?_cons_zero]; rfl) (by kernel_rfl) (fun _ _ _ _ _ h => h) ⟨(by rfl), (by intro c h; cases h), ?_⟩ hHeld ?_
            rotate_left
            focus (intro wS hSw; (try replace hSw := HSF.out wS hSw); (try dsimp only at hSw); go_simp; (try with_reducible rfl))
            (try simp only [Act.put, List.setIfInBounds_toArray, List.set_cons_zero, List.set_cons_succ])
            refine wpAnyG_take 18 (v := ?_) (fun _ => trivial) (by simp only [List.getElem?_toArray, List.getElem?_cons_succ, List.getElem?_cons_zero]; rfl) (by kernel_rfl) (fun _ _ _ _ _ h => h) ⟨(by rfl), (by intro c h; cases h), ?_⟩ hHeld ?_
            rotate_left
            focus (intro wS hSw; (try replace hSw := HSF.out wS hSw); (try dsimp only at hSw); go_simp; (try with_reducible rfl))
            (try simp only [Act.put, List.setIfInBounds_toArray, List.set_cons_zero, List.set_cons_succ])
            refine wpAnyS_ready [9] (by kernel_rfl) (by simp) (AllReadyS.consG (by simp only [List.getElem?_toArray, List.getElem?_cons_succ, List.getElem?_cons_zero]; rfl) (by rfl) (fun K hK => ?_) AllReadyS.nil)
            refine callS (by intro c h; cases h) (by go_simp; try with_reducible rfl) (HF1.out _) ?_
            intro v1 hBq
            have C1 := hid (BD.out.trans (hBq.mono BD.out.size))
            refine hK.out _ _ C1.out ?_
            (try simp only [Act.put, List.setIfInBounds_toArray, List.set_cons_zero, List.set_cons_succ])
            clear hK K hBq
            clear hHeld
            have hHeld := C1.out
            refine wpAnyS_ready [19] (by kernel_rfl) (by simp) (AllReadyS.consG (by simp only [List.getElem?_toArray, List.getElem?_cons_succ, List.getElem?_cons_zero]; rfl) (by rfl) (fun K hK => ?_) AllReadyS.nil)
            refine callS (by intro c h; cases h) (by go_simp; try with_reducible rfl) (HF2.out _) ?_
            intro v2 hBq
            have C2 := hid (C1.out.trans (hBq.mono C1.out.size))
            refine hK.out _ _ C2.out ?_
            (try simp only [Act.put, List.setIfInBounds_toArray, List.set_cons_zero, List.set_cons_succ])
            clear hK K hBq
            clear hHeld
            have hHeld := C2.out
            refine wpAnyG_pure 20 (v := ?_) (fun _ => trivial) (by simp only [List.getElem?_toArray, List.getElem?_cons_succ, List.getElem?_cons_zero]; rfl) (by kernel_rfl) (fun _ _ _ _ _ h => h) ⟨(by rfl), (by intro c h; cases h), ?_⟩ hHeld ?_
            rotate_left
            focus (intro wS hSw; (try replace hSw := HSF.out wS hSw); (try dsimp only at hSw); go_simp; (try with_reducible rfl))
            (try simp only [Act.put, List.setIfInBounds_toArray, List.set_cons_zero, List.set_cons_succ])
            refine wpAnyS_done (by kernel_rfl) ?_
            have BJ := hid (HBj.out.trans (C2.out.mono HBj.out.size))
            clear hHeld HF1 HF2 HSF BD C1 C2
            go_wp2_with fail
            go_roundw
            case rel => exact ⟨j + 1, by omega, by go_num, BJ.out⟩
            case measure => simp [intOf]; omega
  case rest =>
    have w7B := hid (show Below w1.heap.size w1 wc from hcut)
    clear hcut
    generalize wc = w7 at *
    obtain ⟨x0, x1, x2, xz⟩ := HX.out w7 w7B.out
    have HR3 := hid (HR2.out w7 w7B.out)
    cases hrv : rr with
    | false =>
      as_aux_lemma =>
        rw [hrv] at HR3
        clear hrv
        go_wp2_with fail
        refine HR3.out.mono ?_
        rintro e w8 ⟨rfl, hB⟩
        have B8 := hid (w7B.out.trans (hB.mono w7B.out.size))
        clear hB
        go_wp2_with fail
        go_ret
        exact ⟨rfl, HUPW.out _ B8.out⟩
    | true =>
    rw [hrv] at HR3
    have HRT := hid (show rightS ks lots bxs = true from HRR.out.symm.trans hrv)
    clear hrv HRR HR2
    go_wp2_with fail
    refine HR3.out.mono ?_
    rintro e w8 ⟨rfl, hB⟩
    have B8 := hid (w7B.out.trans (hB.mono w7B.out.size))
    clear hB HR3 w7B x0 x1 x2 xz
    obtain ⟨r1, r2, r3'⟩ := right_kinds HRT.out
    have R1 := hid r1; have R2 := hid r2; have R3 := hid r3'
    have HCN := hid (cnt_of_box r3')
    have HLT := hid (box_lt r3')
    have HOK := hid (leftOK_of (lots := lots) HOB.out HLT.out HCN.out)
    clear r1 r2 r3'
    go_upto_block 4 with fail
    go_cut [] (fun wx => Below w1.heap.size w1 wx)
    case first =>
      as_aux_lemma =>
        go_wp2_with fail
        go_loopw [22] (fun i wr => ∃ k : Nat, k ≤ bxs.length ∧ i = .int .i64 k ∧ Below w1.heap.size w1 wr) (fun i _ => bxs.length - (intOf i).toNat)
        case atStart => exact ⟨0, by omega, rfl, B8.out⟩
        case round =>
          clear B8
          obtain ⟨k, hk, rfl, hB⟩ := hrel
          have HBk := hid hB
          clear hB
          obtain ⟨x0, x1, x2, xz⟩ := HX.out wr HBk.out
          by_cases hlt : k < bxs.length
          case neg =>
            obtain rfl : k = bxs.length := by omega
            go_wp2_with fail
            go_meet
            exact HBk.out
          case pos =>
          have hb20 := N3.out
          have hltI : (k : Int) < bxs.length := by omega
          have hbf := List.all_eq_true.1 R3.out _ (List.getElem_mem hlt)
          obtain ⟨bb, ob, rfl, hbb, u0, u1, u2, -⟩ := (HS3.out wr HBk.out).i3 hlt
          generalize bxs[k] = x at *
          obtain ⟨y0, y1, y2⟩ := x
          simp only at u0 u1 u2
          have HUP := hid (fun (wq : World) (hq : Below wr.heap.size wr wq) => HBk.out.trans (hq.mono HBk.out.size))
          have HF1 := hid (fun (W' : World) (hW : Below wr.heap.size wr W') => weight_any A B c d ks lots (y0, y1, y2) W' HK.out HL.out (HS1.out _ (HUP.out _ hW)) (HS2.out _ (HUP.out _ hW)) hbf R2.out R1.out)
          have HF2 := hid (fun (W' : World) (hW : Below wr.heap.size wr W') => rweight_any A B c d ks lots (y0, y1, y2) W' HK.out HL.out (HS1.out _ (HUP.out _ hW)) (HS2.out _ (HUP.out _ hW)) hbf R2.out R1.out)
          generalize weightF ks lots (y0, y1, y2) = ff at *
          have HSF := hid (fun (wq : World) (hq : Below wr.heap.size wr wq) => And.intro ((bcell hq _ _ xz).trans x0) (And.intro ((bcell hq _ _ xz).trans x1) (And.intro ((bcell hq _ _ xz).trans x2) (And.intro ((bcell hq _ _ hbb).trans u0) (And.intro ((bcell hq _ _ hbb).trans u1) ((bcell hq _ _ hbb).trans u2))))))
          have BD := hid ((Below.refl wr.heap.size wr).drew)
          clear u0 u1 u2 hbf
          as_aux_lemma =>
            go_upto_region 21 with fail
            refine wpIn_wide.1 (wpIn_region_S (n := 0) (fun wq => Below wr.heap.size wr wq) [] (by kernel_rfl) BD.out (fun hHeld => ?_))
            generalize wr.drew = wd at *
            clear x0 x1 x2
            refine wpAnyG_pure 0 (v := ?_) (fun _ => trivial) (by simp only [List.getElem?_toArray, List.getElem?_cons_succ, List.getElem?_cons_zero]; rfl) (by kernel_rfl) (fun _ _ _ _ _ h => h) ⟨(by rfl), (by intro c h; cases h), ?_⟩ hHeld ?_
            rotate_left
            focus (intro wS hSw; (try replace hSw := HSF.out wS hSw); (try dsimp only at hSw); go_simp; (try with_reducible rfl))
            (try simp only [Act.put, List.setIfInBounds_toArray, List.set_cons_zero, List.set_cons_succ])
            refine wpAnyG_take 1 (v := ?_) (fun _ => trivial) (by simp only [List.getElem?_toArray, List.getElem?_cons_succ, List.getElem?_cons_zero]; rfl) (by kernel_rfl) (fun _ _ _ _ _ h => h) ⟨(by rfl), (by intro c h; cases h), ?_⟩ hHeld ?_
            rotate_left
            focus (intro wS hSw; (try replace hSw := HSF.out wS hSw); (try dsimp only at hSw); go_simp; (try with_reducible rfl))
            (try simp only [Act.put, List.setIfInBounds_toArray, List.set_cons_zero, List.set_cons_succ])
            refine wpAnyG_pure 2 (v := ?_) (fun _ => trivial) (by simp only [List.getElem?_toArray, List.getElem?_cons_succ, List.getElem?_cons_zero]; rfl) (by kernel_rfl) (fun _ _ _ _ _ h => h) ⟨(by rfl), (by intro c h; cases h), ?_⟩ hHeld ?_
            rotate_left
            focus (intro wS hSw; (try replace hSw := HSF.out wS hSw); (try dsimp only at hSw); go_simp; (try with_reducible rfl))
            (try simp only [Act.put, List.setIfInBounds_toArray, List.set_cons_zero, List.set_cons_succ])
            refine wpAnyG_take 3 (v := ?_) (fun _ => trivial) (by simp only [List.getElem?_toArray, List.getElem?_cons_succ, List.getElem?_cons_zero]; rfl) (by kernel_rfl) (fun _ _ _ _ _ h => h) ⟨(by rfl), (by intro c h; cases h), ?_⟩ hHeld ?_
            rotate_left
            focus (intro wS hSw; (try replace hSw := HSF.out wS hSw); (try dsimp only at hSw); go_simp; (try with_reducible rfl))
            (try simp only [Act.put, List.setIfInBounds_toArray, List.set_cons_zero, List.set_cons_succ])
            refine wpAnyG_pure 4 (v := ?_) (fun _ => trivial) (by simp only [List.getElem?_toArray, List.getElem?_cons_succ, List.getElem?_cons_zero]; rfl) (by kernel_rfl) (fun _ _ _ _ _ h => h) ⟨(by rfl), (by intro c h; cases h), ?_⟩ hHeld ?_
            rotate_left
            focus (intro wS hSw; (try replace hSw := HSF.out wS hSw); (try dsimp only at hSw); go_simp; (try with_reducible rfl))
            (try simp only [Act.put, List.setIfInBounds_toArray, List.set_cons_zero, List.set_cons_succ])
            refine wpAnyG_take 5 (v := ?_) (fun _ => trivial) (by simp only [List.getElem?_toArray, List.getElem?_cons_succ, List.getElem?_cons_zero]; rfl) (by kernel_rfl) (fun _ _ _ _ _ h => h) ⟨(by rfl), (by intro c h; cases h), ?_⟩ hHeld ?_
            rotate_left
            focus (intro wS hSw; (try replace hSw := HSF.out wS hSw); (try dsimp only at hSw); go_simp; (try with_reducible rfl))
            (try simp only [Act.put, List.setIfInBounds_toArray, List.set_cons_zero, List.set_cons_succ])
            refine wpAnyG_pure 6 (v := ?_) (fun _ => trivial) (by simp only [List.getElem?_toArray, List.getElem?_cons_succ, List.getElem?_cons_zero]; rfl) (by kernel_rfl) (fun _ _ _ _ _ h => h) ⟨(by rfl), (by intro c h; cases h), ?_⟩ hHeld ?_
            rotate_left
            focus (intro wS hSw; (try replace hSw := HSF.out wS hSw); (try dsimp only at hSw); go_simp; (try with_reducible rfl))
            (try simp only [Act.put, List.setIfInBounds_toArray, List.set_cons_zero, List.set_cons_succ])
            refine wpAnyG_pure 7 (v := ?_) (fun _ => trivial) (by simp only [List.getElem?_toArray, List.getElem?_cons_succ, List.getElem?_cons_zero]; rfl) (by kernel_rfl) (fun _ _ _ _ _ h => h) ⟨(by rfl), (by intro c h; cases h), ?_⟩ hHeld ?_
            rotate_left
            focus (intro wS hSw; (try replace hSw := HSF.out wS hSw); (try dsimp only at hSw); go_simp; (try with_reducible rfl))
            (try simp only [Act.put, List.setIfInBounds_toArray, List.set_cons_zero, List.set_cons_succ])
            refine wpAnyG_take 8 (v := ?_) (fun _ => trivial) (by simp only [List.getElem?_toArray, List.getElem?_cons_succ, List.getElem?_cons_zero]; rfl) (by kernel_rfl) (fun _ _ _ _ _ h => h) ⟨(by rfl), (by intro c h; cases h), ?_⟩ hHeld ?_
            rotate_left
            focus (intro wS hSw; (try replace hSw := HSF.out wS hSw); (try dsimp only at hSw); go_simp; (try with_reducible rfl))
            (try simp only [Act.put, List.setIfInBounds_toArray, List.set_cons_zero, List.set_cons_succ])
            refine wpAnyG_pure 10 (v := ?_) (fun _ => trivial) (by simp only [List.getElem?_toArray, List.getElem?_cons_succ, List.getElem?_cons_zero]; rfl) (by kernel_rfl) (fun _ _ _ _ _ h => h) ⟨(by rfl), (by intro c h; cases h), ?_⟩ hHeld ?_
            rotate_left
            focus (intro wS hSw; (try replace hSw := HSF.out wS hSw); (try dsimp only at hSw); go_simp; (try with_reducible rfl))
            (try simp only [Act.put, List.setIfInBounds_toArray, List.set_cons_zero, List.set_cons_succ])
            refine wpAnyG_take 11 (v := ?_) (fun _ => trivial) (by simp only [List.getElem?_toArray, List.getElem?_cons_succ, List.getElem?_cons_zero]; rfl) (by kernel_rfl) (fun _ _ _ _ _ h => h) ⟨(by rfl), (by intro c h; cases h), ?_⟩ hHeld ?_
            rotate_left
            focus (intro wS hSw; (try replace hSw := HSF.out wS hSw); (try dsimp only at hSw); go_simp; (try with_reducible rfl))
            (try simp only [Act.put, List.setIfInBounds_toArray, List.set_cons_zero, List.set_cons_succ])
            refine wpAnyG_pure 12 (v := ?_) (fun _ => trivial) (by simp only [List.getElem?_toArray, List.getElem?_cons_succ, List.getElem?_cons_zero]; rfl) (by kernel_rfl) (fun _ _ _ _ _ h => h) ⟨(by rfl), (by intro c h; cases h), ?_⟩ hHeld ?_
            rotate_left
            focus (intro wS hSw; (try replace hSw := HSF.out wS hSw); (try dsimp only at hSw); go_simp; (try with_reducible rfl))
            (try simp only [Act.put, List.setIfInBounds_toArray, List.set_cons_zero, List.set_cons_succ])
            refine wpAnyG_take 13 (v := ?_) (fun _ => trivial) (by simp only [List.getElem?_toArray, List.getElem?_cons_succ, List.getElem?_cons_zero]; rfl) (by kernel_rfl) (fun _ _ _ _ _ h => h) ⟨(by rfl), (by intro c h; cases h), ?_⟩ hHeld ?_
            rotate_left
            focus (intro wS hSw; (try replace hSw := HSF.out wS hSw); (try dsimp only at hSw); go_simp; (try with_reducible rfl))
            (try simp only [Act.put, List.setIfInBounds_toArray, List.set_cons_zero, List.set_cons_succ])
            refine wpAnyG_pure 14 (v := ?_) (fun _ => trivial) (by simp only [List.getElem?_toArray, List.getElem?_cons_succ, List.getElem?_cons_zero]; rfl) (by kernel_rfl) (fun _ _ _ _ _ h => h) ⟨(by rfl), (by intro c h; cases h), ?_⟩ hHeld ?_
            rotate_left
            focus (intro wS hSw; (try replace hSw := HSF.out wS hSw); (try dsimp only at hSw); go_simp; (try with_reducible rfl))
            (try simp only [Act.put, List.setIfInBounds_toArray, List.set_cons_zero, List.set_cons_succ])
            refine wpAnyG_take 15 (v := ?_) (fun _ => trivial) (by simp only [List.getElem?_toArray, List.getElem?_cons_succ, List.getElem?_cons_zero]; rfl) (by kernel_rfl) (fun _ _ _ _ _ h => h) ⟨(by rfl), (by intro c h; cases h), ?_⟩ hHeld ?_
            rotate_left
            focus (intro wS hSw; (try replace hSw := HSF.out wS hSw); (try dsimp only at hSw); go_simp; (try with_reducible rfl))
            (try simp only [Act.put, List.setIfInBounds_toArray, List.set_cons_zero, List.set_cons_succ])
            refine wpAnyG_pure 16 (v := ?_) (fun _ => trivial) (by simp only [List.getElem?_toArray, List.getElem?_cons_succ, List.getElem?_cons_zero]; rfl) (by kernel_rfl) (fun _ _ _ _ _ h => h) ⟨(by rfl), (by intro c h; cases h), ?_⟩ hHeld ?_
            rotate_left
            focus (intro wS hSw; (try replace hSw := HSF.out wS hSw); (try dsimp only at hSw); go_simp; (try with_reducible rfl))
            (try simp only [Act.put, List.setIfInBounds_toArray, List.set_cons_zero, List.set_cons_succ])
            refine wpAnyG_pure 17 (v := ?_) (fun _ => trivial) (by simp only [List.getElem?_toArray, List.getElem?_cons_succ, List.getElem?_cons_zero]; rfl) (by kernel_rfl) (fun _ _ _ _ _ h => h) ⟨(by rfl), (by intro c h; cases h), ?_⟩ hHeld ?_
            rotate_left
            focus (intro wS hSw; (try replace hSw := HSF.out wS hSw); (try dsimp only at hSw); go_simp; (try with_reducible rfl))
            (try simp only [Act.put, List.setIfInBounds_toArray, List.set_cons_zero, List.set_cons_succ])
            refine wpAnyG_take 18 (v := ?_) (fun _ => trivial) (by simp only [List.getElem?_toArray, List.getElem?_cons_succ, List.getElem?_cons_zero]; rfl) (by kernel_rfl) (fun _ _ _ _ _ h => h) ⟨(by rfl), (by intro c h; cases h), ?_⟩ hHeld ?_
            rotate_left
            focus (intro wS hSw; (try replace hSw := HSF.out wS hSw); (try dsimp only at hSw); go_simp; (try with_reducible rfl))
            (try simp only [Act.put, List.setIfInBounds_toArray, List.set_cons_zero, List.set_cons_succ])
            refine wpAnyS_ready [9] (by kernel_rfl) (by simp) (AllReadyS.consG (by simp only [List.getElem?_toArray, List.getElem?_cons_succ, List.getElem?_cons_zero]; rfl) (by rfl) (fun K hK => ?_) AllReadyS.nil)
            refine callS (by intro c h; cases h) (by go_simp; try with_reducible rfl) (HF1.out _ BD.out) ?_
            intro v1 hBq
            have C1 := hid (BD.out.trans (hBq.mono BD.out.size))
            refine hK.out _ _ C1.out ?_
            (try simp only [Act.put, List.setIfInBounds_toArray, List.set_cons_zero, List.set_cons_succ])
            clear hK K hBq
            clear hHeld
            have hHeld := C1.out
            refine wpAnyS_ready [19] (by kernel_rfl) (by simp) (AllReadyS.consG (by simp only [List.getElem?_toArray, List.getElem?_cons_succ, List.getElem?_cons_zero]; rfl) (by rfl) (fun K hK => ?_) AllReadyS.nil)
            refine callS (by intro c h; cases h) (by go_simp; try with_reducible rfl) (HF2.out _ C1.out) ?_
            intro v2 hBq
            have C2 := hid (C1.out.trans (hBq.mono C1.out.size))
            refine hK.out _ _ C2.out ?_
            (try simp only [Act.put, List.setIfInBounds_toArray, List.set_cons_zero, List.set_cons_succ])
            clear hK K hBq
            clear hHeld
            have hHeld := C2.out
            refine wpAnyG_pure 20 (v := ?_) (fun _ => trivial) (by simp only [List.getElem?_toArray, List.getElem?_cons_succ, List.getElem?_cons_zero]; rfl) (by kernel_rfl) (fun _ _ _ _ _ h => h) ⟨(by rfl), (by intro c h; cases h), ?_⟩ hHeld ?_
            rotate_left
            focus (intro wS hSw; (try replace hSw := HSF.out wS hSw); (try dsimp only at hSw); go_simp; (try with_reducible rfl))
            (try simp only [Act.put, List.setIfInBounds_toArray, List.set_cons_zero, List.set_cons_succ])
            refine wpAnyS_done (by kernel_rfl) ?_
            have BJ := hid (HUP.out _ C2.out)
            clear hHeld HF1 HF2 HSF BD C1 C2
            go_wp2_with fail
            go_roundw
            case rel => exact ⟨k + 1, by omega, by go_num, BJ.out⟩
            case measure => simp [intOf]; omega
    case rest =>
      have w9B := hid (show Below w1.heap.size w1 wc from hcut)
      clear hcut
      generalize wc = w9 at *
      go_upto_block 6 with fail
      go_cut [] (fun wx => Below w1.heap.size w1 wx)
      case first =>
        as_aux_lemma =>
          go_wp2_with fail
          go_loopw [23] (fun i wr => ∃ k : Nat, k ≤ wants.length ∧ i = .int .i64 k ∧ Below w1.heap.size w1 wr) (fun i _ => wants.length - (intOf i).toNat)
          case atStart => exact ⟨0, by omega, rfl, w9B.out⟩
          case round =>
            clear w9B
            obtain ⟨k, hk, rfl, hB⟩ := hrel
            have HBk := hid hB
            clear hB
            by_cases hlt : k < wants.length
            case neg =>
              obtain rfl : k = wants.length := by omega
              go_wp2_with fail
              go_meet
              exact HBk.out
            case pos =>
            have hltI : (k : Int) < wants.length := by omega
            obtain ⟨x0, x1, x2, xz⟩ := HX.out wr HBk.out
            obtain ⟨bw, ow, rfl, hbw, u0, u1, u2, -⟩ := (HS4.out wr HBk.out).i3 hlt
            generalize wants[k] = x at *
            obtain ⟨wk, wn, wu⟩ := x
            simp only at u0 u1 u2
            have HUP := hid (fun (wq : World) (hq : Below wr.heap.size wr wq) => HBk.out.trans (hq.mono HBk.out.size))
            have HF1 := hid (fun (W' : World) (hW : Below wr.heap.size wr W') => supply_any B C d e0 lots bxs (wk, wn, wu) W' HL.out (by have := N3.out; omega) (HS2.out _ (HUP.out _ hW)) (HS3.out _ (HUP.out _ hW)) HCN.out HLT.out)
            have HF2 := hid (fun (W' : World) (hW : Below wr.heap.size wr W') => rsupply_any B C d e0 lots bxs (wk, wn, wu) W' HL.out (by have := N3.out; omega) (HS2.out _ (HUP.out _ hW)) (HS3.out _ (HUP.out _ hW)) HCN.out)
            generalize supplyL lots bxs (wk, wn, wu) = ff at *
            have hOB : ∀ i ∈ orderL lots bxs (wk, wn, wu), i < bxs.length := fun i hi => (orderL_mem.1 hi).1
            have HO1 := hid (fun (W' : World) (hW : Below wr.heap.size wr W') => show Calls Tryz.prog 20 #[.slice B lots.length d, .slice C bxs.length e0, .agg #[.int .i64 wk, .int .i64 wn, .int .i64 wu]] W' (fun e w' => ∃ v, e = .returned v ∧ ((∃ A c, v = .slice A (toI (orderL lots bxs (wk, wn, wu))).length c ∧ SlR w' w'.heap.size A (toI (orderL lots bxs (wk, wn, wu)))) ∧ Below W'.heap.size W' w')) from
              (order_any B C d e0 lots bxs (wk, wn, wu) W' HL.out N3.out (HS2.out _ (HUP.out _ hW)) (HS3.out _ (HUP.out _ hW)) HLT.out).mono fun e w' ⟨v, e1, e2, e3⟩ => ⟨v, e1, own_ints e2 hOB (by have := N3.out; omega), e3⟩)
            have HO2 := hid (fun (W' : World) (hW : Below wr.heap.size wr W') => show Calls Tryz.prog 21 #[.slice B lots.length d, .slice C bxs.length e0, .agg #[.int .i64 wk, .int .i64 wn, .int .i64 wu]] W' (fun e w' => ∃ v, e = .returned v ∧ ((∃ A c, v = .slice A (toI (orderL lots bxs (wk, wn, wu))).length c ∧ SlR w' w'.heap.size A (toI (orderL lots bxs (wk, wn, wu)))) ∧ Below W'.heap.size W' w')) from
              (rorder_any B C d e0 lots bxs (wk, wn, wu) W' HL.out (by have := N3.out; omega) (HS2.out _ (HUP.out _ hW)) (HS3.out _ (HUP.out _ hW)) HCN.out.nn).mono fun e w' ⟨v, e1, e2, e3⟩ => ⟨v, e1, own_ints e2 hOB (by have := N3.out; omega), e3⟩)
            have hEL : (toI (orderL lots bxs (wk, wn, wu))).length ≤ maxLen := by
              have := orderL_len lots bxs (wk, wn, wu)
              have := N3.out
              rw [toI_len]; unfold maxLen; omega
            generalize toI (orderL lots bxs (wk, wn, wu)) = EO at *
            have HELO := hid hEL
            clear hOB hEL
            have HSF := hid (fun (wq : World) (hq : Below wr.heap.size wr wq) => And.intro ((bcell hq _ _ xz).trans x1) (And.intro ((bcell hq _ _ xz).trans x2) (And.intro ((bcell hq _ _ hbw).trans u0) (And.intro ((bcell hq _ _ hbw).trans u1) ((bcell hq _ _ hbw).trans u2)))))
            have BD := hid ((Below.refl wr.heap.size wr).drew)
            clear u0 u1 u2
            as_aux_lemma =>
              go_upto_region 26 with fail
              refine wpIn_wide.1 (wpIn_region_S (n := 0) (fun wq => Below wr.heap.size wr wq) [] (by kernel_rfl) BD.out (fun hHeld => ?_))
              generalize wr.drew = wd at *
              clear x0 x1 x2
              refine wpAnyG_pure 0 (v := ?_) (fun _ => trivial) (by simp only [List.getElem?_toArray, List.getElem?_cons_succ, List.getElem?_cons_zero]; rfl) (by kernel_rfl) (fun _ _ _ _ _ h => h) ⟨(by rfl), (by intro c h; cases h), ?_⟩ hHeld ?_
              rotate_left
              focus (intro wS hSw; (try replace hSw := HSF.out wS hSw); (try dsimp only at hSw); go_simp; (try with_reducible rfl))
              (try simp only [Act.put, List.setIfInBounds_toArray, List.set_cons_zero, List.set_cons_succ])
              refine wpAnyG_take 1 (v := ?_) (fun _ => trivial) (by simp only [List.getElem?_toArray, List.getElem?_cons_succ, List.getElem?_cons_zero]; rfl) (by kernel_rfl) (fun _ _ _ _ _ h => h) ⟨(by rfl), (by intro c h; cases h), ?_⟩ hHeld ?_
              rotate_left
              focus (intro wS hSw; (try replace hSw := HSF.out wS hSw); (try dsimp only at hSw); go_simp; (try with_reducible rfl))
              (try simp only [Act.put, List.setIfInBounds_toArray, List.set_cons_zero, List.set_cons_succ])
              refine wpAnyG_pure 2 (v := ?_) (fun _ => trivial) (by simp only [List.getElem?_toArray, List.getElem?_cons_succ, List.getElem?_cons_zero]; rfl) (by kernel_rfl) (fun _ _ _ _ _ h => h) ⟨(by rfl), (by intro c h; cases h), ?_⟩ hHeld ?_
              rotate_left
              focus (intro wS hSw; (try replace hSw := HSF.out wS hSw); (try dsimp only at hSw); go_simp; (try with_reducible rfl))
              (try simp only [Act.put, List.setIfInBounds_toArray, List.set_cons_zero, List.set_cons_succ])
              refine wpAnyG_take 3 (v := ?_) (fun _ => trivial) (by simp only [List.getElem?_toArray, List.getElem?_cons_succ, List.getElem?_cons_zero]; rfl) (by kernel_rfl) (fun _ _ _ _ _ h => h) ⟨(by rfl), (by intro c h; cases h), ?_⟩ hHeld ?_
              rotate_left
              focus (intro wS hSw; (try replace hSw := HSF.out wS hSw); (try dsimp only at hSw); go_simp; (try with_reducible rfl))
              (try simp only [Act.put, List.setIfInBounds_toArray, List.set_cons_zero, List.set_cons_succ])
              refine wpAnyG_pure 4 (v := ?_) (fun _ => trivial) (by simp only [List.getElem?_toArray, List.getElem?_cons_succ, List.getElem?_cons_zero]; rfl) (by kernel_rfl) (fun _ _ _ _ _ h => h) ⟨(by rfl), (by intro c h; cases h), ?_⟩ hHeld ?_
              rotate_left
              focus (intro wS hSw; (try replace hSw := HSF.out wS hSw); (try dsimp only at hSw); go_simp; (try with_reducible rfl))
              (try simp only [Act.put, List.setIfInBounds_toArray, List.set_cons_zero, List.set_cons_succ])
              refine wpAnyG_pure 5 (v := ?_) (fun _ => trivial) (by simp only [List.getElem?_toArray, List.getElem?_cons_succ, List.getElem?_cons_zero]; rfl) (by kernel_rfl) (fun _ _ _ _ _ h => h) ⟨(by rfl), (by intro c h; cases h), ?_⟩ hHeld ?_
              rotate_left
              focus (intro wS hSw; (try replace hSw := HSF.out wS hSw); (try dsimp only at hSw); go_simp; (try with_reducible rfl))
              (try simp only [Act.put, List.setIfInBounds_toArray, List.set_cons_zero, List.set_cons_succ])
              refine wpAnyG_pure 6 (v := ?_) (fun _ => trivial) (by simp only [List.getElem?_toArray, List.getElem?_cons_succ, List.getElem?_cons_zero]; rfl) (by kernel_rfl) (fun _ _ _ _ _ h => h) ⟨(by rfl), (by intro c h; cases h), ?_⟩ hHeld ?_
              rotate_left
              focus (intro wS hSw; (try replace hSw := HSF.out wS hSw); (try dsimp only at hSw); go_simp; (try with_reducible rfl))
              (try simp only [Act.put, List.setIfInBounds_toArray, List.set_cons_zero, List.set_cons_succ])
              refine wpAnyG_take 7 (v := ?_) (fun _ => trivial) (by simp only [List.getElem?_toArray, List.getElem?_cons_succ, List.getElem?_cons_zero]; rfl) (by kernel_rfl) (fun _ _ _ _ _ h => h) ⟨(by rfl), (by intro c h; cases h), ?_⟩ hHeld ?_
              rotate_left
              focus (intro wS hSw; (try replace hSw := HSF.out wS hSw); (try dsimp only at hSw); go_simp; (try with_reducible rfl))
              (try simp only [Act.put, List.setIfInBounds_toArray, List.set_cons_zero, List.set_cons_succ])
              refine wpAnyG_pure 9 (v := ?_) (fun _ => trivial) (by simp only [List.getElem?_toArray, List.getElem?_cons_succ, List.getElem?_cons_zero]; rfl) (by kernel_rfl) (fun _ _ _ _ _ h => h) ⟨(by rfl), (by intro c h; cases h), ?_⟩ hHeld ?_
              rotate_left
              focus (intro wS hSw; (try replace hSw := HSF.out wS hSw); (try dsimp only at hSw); go_simp; (try with_reducible rfl))
              (try simp only [Act.put, List.setIfInBounds_toArray, List.set_cons_zero, List.set_cons_succ])
              refine wpAnyG_take 10 (v := ?_) (fun _ => trivial) (by simp only [List.getElem?_toArray, List.getElem?_cons_succ, List.getElem?_cons_zero]; rfl) (by kernel_rfl) (fun _ _ _ _ _ h => h) ⟨(by rfl), (by intro c h; cases h), ?_⟩ hHeld ?_
              rotate_left
              focus (intro wS hSw; (try replace hSw := HSF.out wS hSw); (try dsimp only at hSw); go_simp; (try with_reducible rfl))
              (try simp only [Act.put, List.setIfInBounds_toArray, List.set_cons_zero, List.set_cons_succ])
              refine wpAnyG_pure 11 (v := ?_) (fun _ => trivial) (by simp only [List.getElem?_toArray, List.getElem?_cons_succ, List.getElem?_cons_zero]; rfl) (by kernel_rfl) (fun _ _ _ _ _ h => h) ⟨(by rfl), (by intro c h; cases h), ?_⟩ hHeld ?_
              rotate_left
              focus (intro wS hSw; (try replace hSw := HSF.out wS hSw); (try dsimp only at hSw); go_simp; (try with_reducible rfl))
              (try simp only [Act.put, List.setIfInBounds_toArray, List.set_cons_zero, List.set_cons_succ])
              refine wpAnyG_take 12 (v := ?_) (fun _ => trivial) (by simp only [List.getElem?_toArray, List.getElem?_cons_succ, List.getElem?_cons_zero]; rfl) (by kernel_rfl) (fun _ _ _ _ _ h => h) ⟨(by rfl), (by intro c h; cases h), ?_⟩ hHeld ?_
              rotate_left
              focus (intro wS hSw; (try replace hSw := HSF.out wS hSw); (try dsimp only at hSw); go_simp; (try with_reducible rfl))
              (try simp only [Act.put, List.setIfInBounds_toArray, List.set_cons_zero, List.set_cons_succ])
              refine wpAnyG_pure 13 (v := ?_) (fun _ => trivial) (by simp only [List.getElem?_toArray, List.getElem?_cons_succ, List.getElem?_cons_zero]; rfl) (by kernel_rfl) (fun _ _ _ _ _ h => h) ⟨(by rfl), (by intro c h; cases h), ?_⟩ hHeld ?_
              rotate_left
              focus (intro wS hSw; (try replace hSw := HSF.out wS hSw); (try dsimp only at hSw); go_simp; (try with_reducible rfl))
              (try simp only [Act.put, List.setIfInBounds_toArray, List.set_cons_zero, List.set_cons_succ])
              refine wpAnyG_pure 14 (v := ?_) (fun _ => trivial) (by simp only [List.getElem?_toArray, List.getElem?_cons_succ, List.getElem?_cons_zero]; rfl) (by kernel_rfl) (fun _ _ _ _ _ h => h) ⟨(by rfl), (by intro c h; cases h), ?_⟩ hHeld ?_
              rotate_left
              focus (intro wS hSw; (try replace hSw := HSF.out wS hSw); (try dsimp only at hSw); go_simp; (try with_reducible rfl))
              (try simp only [Act.put, List.setIfInBounds_toArray, List.set_cons_zero, List.set_cons_succ])
              refine wpAnyG_pure 15 (v := ?_) (fun _ => trivial) (by simp only [List.getElem?_toArray, List.getElem?_cons_succ, List.getElem?_cons_zero]; rfl) (by kernel_rfl) (fun _ _ _ _ _ h => h) ⟨(by rfl), (by intro c h; cases h), ?_⟩ hHeld ?_
              rotate_left
              focus (intro wS hSw; (try replace hSw := HSF.out wS hSw); (try dsimp only at hSw); go_simp; (try with_reducible rfl))
              (try simp only [Act.put, List.setIfInBounds_toArray, List.set_cons_zero, List.set_cons_succ])
              refine wpAnyG_take 16 (v := ?_) (fun _ => trivial) (by simp only [List.getElem?_toArray, List.getElem?_cons_succ, List.getElem?_cons_zero]; rfl) (by kernel_rfl) (fun _ _ _ _ _ h => h) ⟨(by rfl), (by intro c h; cases h), ?_⟩ hHeld ?_
              rotate_left
              focus (intro wS hSw; (try replace hSw := HSF.out wS hSw); (try dsimp only at hSw); go_simp; (try with_reducible rfl))
              (try simp only [Act.put, List.setIfInBounds_toArray, List.set_cons_zero, List.set_cons_succ])
              refine wpAnyS_ready [8] (by kernel_rfl) (by simp) (AllReadyS.consG (by simp only [List.getElem?_toArray, List.getElem?_cons_succ, List.getElem?_cons_zero]; rfl) (by rfl) (fun K hK => ?_) AllReadyS.nil)
              refine callS (by intro c h; cases h) (by go_simp; try with_reducible rfl) (HF1.out _ BD.out) ?_
              intro v1 hBq
              have C1 := hid (BD.out.trans (hBq.mono BD.out.size))
              refine hK.out _ _ C1.out ?_
              (try simp only [Act.put, List.setIfInBounds_toArray, List.set_cons_zero, List.set_cons_succ])
              clear hK K hBq
              clear hHeld
              have hHeld := C1.out
              refine wpAnyS_ready [17] (by kernel_rfl) (by simp) (AllReadyS.consG (by simp only [List.getElem?_toArray, List.getElem?_cons_succ, List.getElem?_cons_zero]; rfl) (by rfl) (fun K hK => ?_) AllReadyS.nil)
              refine callS (by intro c h; cases h) (by go_simp; try with_reducible rfl) (HF2.out _ C1.out) ?_
              intro v2 hBq
              have C2 := hid (C1.out.trans (hBq.mono C1.out.size))
              refine hK.out _ _ C2.out ?_
              (try simp only [Act.put, List.setIfInBounds_toArray, List.set_cons_zero, List.set_cons_succ])
              clear hK K hBq
              clear hHeld
              have hHeld := C2.out
              refine wpAnyG_pure 18 (v := ?_) (fun _ => trivial) (by simp only [List.getElem?_toArray, List.getElem?_cons_succ, List.getElem?_cons_zero]; rfl) (by kernel_rfl) (fun _ _ _ _ _ h => h) ⟨(by rfl), (by intro c h; cases h), ?_⟩ hHeld ?_
              rotate_left
              focus (intro wS hSw; (try replace hSw := HSF.out wS hSw); (try dsimp only at hSw); go_simp; (try with_reducible rfl))
              (try simp only [Act.put, List.setIfInBounds_toArray, List.set_cons_zero, List.set_cons_succ])
              refine wpAnyG_pure 19 (v := ?_) (fun _ => trivial) (by simp only [List.getElem?_toArray, List.getElem?_cons_succ, List.getElem?_cons_zero]; rfl) (by kernel_rfl) (fun _ _ _ _ _ h => h) ⟨(by rfl), (by intro c h; cases h), ?_⟩ hHeld ?_
              rotate_left
              focus (intro wS hSw; (try replace hSw := HSF.out wS hSw); (try dsimp only at hSw); go_simp; (try with_reducible rfl))
              (try simp only [Act.put, List.setIfInBounds_toArray, List.set_cons_zero, List.set_cons_succ])
              refine wpAnyG_pure 20 (v := ?_) (fun _ => trivial) (by simp only [List.getElem?_toArray, List.getElem?_cons_succ, List.getElem?_cons_zero]; rfl) (by kernel_rfl) (fun _ _ _ _ _ h => h) ⟨(by rfl), (by intro c h; cases h), ?_⟩ hHeld ?_
              rotate_left
              focus (intro wS hSw; (try replace hSw := HSF.out wS hSw); (try dsimp only at hSw); go_simp; (try with_reducible rfl))
              (try simp only [Act.put, List.setIfInBounds_toArray, List.set_cons_zero, List.set_cons_succ])
              refine wpAnyG_take 21 (v := ?_) (fun _ => trivial) (by simp only [List.getElem?_toArray, List.getElem?_cons_succ, List.getElem?_cons_zero]; rfl) (by kernel_rfl) (fun _ _ _ _ _ h => h) ⟨(by rfl), (by intro c h; cases h), ?_⟩ hHeld ?_
              rotate_left
              focus (intro wS hSw; (try replace hSw := HSF.out wS hSw); (try dsimp only at hSw); go_simp; (try with_reducible rfl))
              (try simp only [Act.put, List.setIfInBounds_toArray, List.set_cons_zero, List.set_cons_succ])
              refine wpAnyG_pure 22 (v := ?_) (fun _ => trivial) (by simp only [List.getElem?_toArray, List.getElem?_cons_succ, List.getElem?_cons_zero]; rfl) (by kernel_rfl) (fun _ _ _ _ _ h => h) ⟨(by rfl), (by intro c h; cases h), ?_⟩ hHeld ?_
              rotate_left
              focus (intro wS hSw; (try replace hSw := HSF.out wS hSw); (try dsimp only at hSw); go_simp; (try with_reducible rfl))
              (try simp only [Act.put, List.setIfInBounds_toArray, List.set_cons_zero, List.set_cons_succ])
              refine wpAnyG_take 23 (v := ?_) (fun _ => trivial) (by simp only [List.getElem?_toArray, List.getElem?_cons_succ, List.getElem?_cons_zero]; rfl) (by kernel_rfl) (fun _ _ _ _ _ h => h) ⟨(by rfl), (by intro c h; cases h), ?_⟩ hHeld ?_
              rotate_left
              focus (intro wS hSw; (try replace hSw := HSF.out wS hSw); (try dsimp only at hSw); go_simp; (try with_reducible rfl))
              (try simp only [Act.put, List.setIfInBounds_toArray, List.set_cons_zero, List.set_cons_succ])
              refine wpAnyG_pure 24 (v := ?_) (fun _ => trivial) (by simp only [List.getElem?_toArray, List.getElem?_cons_succ, List.getElem?_cons_zero]; rfl) (by kernel_rfl) (fun _ _ _ _ _ h => h) ⟨(by rfl), (by intro c h; cases h), ?_⟩ hHeld ?_
              rotate_left
              focus (intro wS hSw; (try replace hSw := HSF.out wS hSw); (try dsimp only at hSw); go_simp; (try with_reducible rfl))
              (try simp only [Act.put, List.setIfInBounds_toArray, List.set_cons_zero, List.set_cons_succ])
              refine wpAnyG_pure 25 (v := ?_) (fun _ => trivial) (by simp only [List.getElem?_toArray, List.getElem?_cons_succ, List.getElem?_cons_zero]; rfl) (by kernel_rfl) (fun _ _ _ _ _ h => h) ⟨(by rfl), (by intro c h; cases h), ?_⟩ hHeld ?_
              rotate_left
              focus (intro wS hSw; (try replace hSw := HSF.out wS hSw); (try dsimp only at hSw); go_simp; (try with_reducible rfl))
              (try simp only [Act.put, List.setIfInBounds_toArray, List.set_cons_zero, List.set_cons_succ])
              refine wpAnyG_pure 26 (v := ?_) (fun _ => trivial) (by simp only [List.getElem?_toArray, List.getElem?_cons_succ, List.getElem?_cons_zero]; rfl) (by kernel_rfl) (fun _ _ _ _ _ h => h) ⟨(by rfl), (by intro c h; cases h), ?_⟩ hHeld ?_
              rotate_left
              focus (intro wS hSw; (try replace hSw := HSF.out wS hSw); (try dsimp only at hSw); go_simp; (try with_reducible rfl))
              (try simp only [Act.put, List.setIfInBounds_toArray, List.set_cons_zero, List.set_cons_succ])
              refine wpAnyG_take 27 (v := ?_) (fun _ => trivial) (by simp only [List.getElem?_toArray, List.getElem?_cons_succ, List.getElem?_cons_zero]; rfl) (by kernel_rfl) (fun _ _ _ _ _ h => h) ⟨(by rfl), (by intro c h; cases h), ?_⟩ hHeld ?_
              rotate_left
              focus (intro wS hSw; (try replace hSw := HSF.out wS hSw); (try dsimp only at hSw); go_simp; (try with_reducible rfl))
              (try simp only [Act.put, List.setIfInBounds_toArray, List.set_cons_zero, List.set_cons_succ])
              refine wpAnyG_pure 29 (v := ?_) (fun _ => trivial) (by simp only [List.getElem?_toArray, List.getElem?_cons_succ, List.getElem?_cons_zero]; rfl) (by kernel_rfl) (fun _ _ _ _ _ h => h) ⟨(by rfl), (by intro c h; cases h), ?_⟩ hHeld ?_
              rotate_left
              focus (intro wS hSw; (try replace hSw := HSF.out wS hSw); (try dsimp only at hSw); go_simp; (try with_reducible rfl))
              (try simp only [Act.put, List.setIfInBounds_toArray, List.set_cons_zero, List.set_cons_succ])
              refine wpAnyG_take 30 (v := ?_) (fun _ => trivial) (by simp only [List.getElem?_toArray, List.getElem?_cons_succ, List.getElem?_cons_zero]; rfl) (by kernel_rfl) (fun _ _ _ _ _ h => h) ⟨(by rfl), (by intro c h; cases h), ?_⟩ hHeld ?_
              rotate_left
              focus (intro wS hSw; (try replace hSw := HSF.out wS hSw); (try dsimp only at hSw); go_simp; (try with_reducible rfl))
              (try simp only [Act.put, List.setIfInBounds_toArray, List.set_cons_zero, List.set_cons_succ])
              refine wpAnyG_pure 31 (v := ?_) (fun _ => trivial) (by simp only [List.getElem?_toArray, List.getElem?_cons_succ, List.getElem?_cons_zero]; rfl) (by kernel_rfl) (fun _ _ _ _ _ h => h) ⟨(by rfl), (by intro c h; cases h), ?_⟩ hHeld ?_
              rotate_left
              focus (intro wS hSw; (try replace hSw := HSF.out wS hSw); (try dsimp only at hSw); go_simp; (try with_reducible rfl))
              (try simp only [Act.put, List.setIfInBounds_toArray, List.set_cons_zero, List.set_cons_succ])
              refine wpAnyG_take 32 (v := ?_) (fun _ => trivial) (by simp only [List.getElem?_toArray, List.getElem?_cons_succ, List.getElem?_cons_zero]; rfl) (by kernel_rfl) (fun _ _ _ _ _ h => h) ⟨(by rfl), (by intro c h; cases h), ?_⟩ hHeld ?_
              rotate_left
              focus (intro wS hSw; (try replace hSw := HSF.out wS hSw); (try dsimp only at hSw); go_simp; (try with_reducible rfl))
              (try simp only [Act.put, List.setIfInBounds_toArray, List.set_cons_zero, List.set_cons_succ])
              refine wpAnyG_pure 33 (v := ?_) (fun _ => trivial) (by simp only [List.getElem?_toArray, List.getElem?_cons_succ, List.getElem?_cons_zero]; rfl) (by kernel_rfl) (fun _ _ _ _ _ h => h) ⟨(by rfl), (by intro c h; cases h), ?_⟩ hHeld ?_
              rotate_left
              focus (intro wS hSw; (try replace hSw := HSF.out wS hSw); (try dsimp only at hSw); go_simp; (try with_reducible rfl))
              (try simp only [Act.put, List.setIfInBounds_toArray, List.set_cons_zero, List.set_cons_succ])
              refine wpAnyG_pure 34 (v := ?_) (fun _ => trivial) (by simp only [List.getElem?_toArray, List.getElem?_cons_succ, List.getElem?_cons_zero]; rfl) (by kernel_rfl) (fun _ _ _ _ _ h => h) ⟨(by rfl), (by intro c h; cases h), ?_⟩ hHeld ?_
              rotate_left
              focus (intro wS hSw; (try replace hSw := HSF.out wS hSw); (try dsimp only at hSw); go_simp; (try with_reducible rfl))
              (try simp only [Act.put, List.setIfInBounds_toArray, List.set_cons_zero, List.set_cons_succ])
              refine wpAnyG_pure 35 (v := ?_) (fun _ => trivial) (by simp only [List.getElem?_toArray, List.getElem?_cons_succ, List.getElem?_cons_zero]; rfl) (by kernel_rfl) (fun _ _ _ _ _ h => h) ⟨(by rfl), (by intro c h; cases h), ?_⟩ hHeld ?_
              rotate_left
              focus (intro wS hSw; (try replace hSw := HSF.out wS hSw); (try dsimp only at hSw); go_simp; (try with_reducible rfl))
              (try simp only [Act.put, List.setIfInBounds_toArray, List.set_cons_zero, List.set_cons_succ])
              refine wpAnyG_take 36 (v := ?_) (fun _ => trivial) (by simp only [List.getElem?_toArray, List.getElem?_cons_succ, List.getElem?_cons_zero]; rfl) (by kernel_rfl) (fun _ _ _ _ _ h => h) ⟨(by rfl), (by intro c h; cases h), ?_⟩ hHeld ?_
              rotate_left
              focus (intro wS hSw; (try replace hSw := HSF.out wS hSw); (try dsimp only at hSw); go_simp; (try with_reducible rfl))
              (try simp only [Act.put, List.setIfInBounds_toArray, List.set_cons_zero, List.set_cons_succ])
              refine wpAnyS_ready [28] (by kernel_rfl) (by simp) (AllReadyS.consG (by simp only [List.getElem?_toArray, List.getElem?_cons_succ, List.getElem?_cons_zero]; rfl) (by rfl) (fun K hK => ?_) AllReadyS.nil)
              refine callV (by intro c h; cases h) (by go_simp; try with_reducible rfl) (HO1.out _ C2.out) ?_
              intro v28 v3 hR
              obtain ⟨⟨A7, a7, rfl, hS7⟩, hBq⟩ := hR
              have S7 := hid hS7
              have C3 := hid (C2.out.trans (hBq.mono C2.out.size))
              have D28 := hid hBq
              refine hK.out _ _ C3.out ?_
              (try simp only [Act.put, List.setIfInBounds_toArray, List.set_cons_zero, List.set_cons_succ])
              clear hK K hBq hS7
              clear hHeld
              have hHeld := C3.out
              refine wpAnyS_ready [37] (by kernel_rfl) (by simp) (AllReadyS.consG (by simp only [List.getElem?_toArray, List.getElem?_cons_succ, List.getElem?_cons_zero]; rfl) (by rfl) (fun K hK => ?_) AllReadyS.nil)
              refine callV (by intro c h; cases h) (by go_simp; try with_reducible rfl) (HO2.out _ C3.out) ?_
              intro v37 v4 hR
              obtain ⟨⟨A8, a8, rfl, hS8⟩, hBq⟩ := hR
              have S8 := hid hS8
              have C4 := hid (C3.out.trans (hBq.mono C3.out.size))
              have D37 := hid hBq
              refine hK.out _ _ C4.out ?_
              (try simp only [Act.put, List.setIfInBounds_toArray, List.set_cons_zero, List.set_cons_succ])
              clear hK K hBq hS8
              clear hHeld
              have hHeld := C4.out
              have HIN := hid (show Calls Tryz.prog 11 #[.slice A7 EO.length a7, .slice A8 EO.length a8] v4 (fun e w' => e = .returned (.bool true) ∧ Below v4.heap.size v4 w') by
                have := rints_any A7 A8 a7 a8 EO EO v4 HELO.out HELO.out ((S7.out.below D37.out).more D37.out.size) S8.out
                rwa [decide_eq_true rfl] at this)
              refine wpAnyS_ready [38] (by kernel_rfl) (by simp) (AllReadyS.consG (by simp only [List.getElem?_toArray, List.getElem?_cons_succ, List.getElem?_cons_zero]; rfl) (by rfl) (fun K hK => ?_) AllReadyS.nil)
              refine callS (by intro c h; cases h) (by go_simp; try with_reducible rfl) (HIN.out) ?_
              intro v5 hBq
              have C5 := hid (C4.out.trans (hBq.mono C4.out.size))
              refine hK.out _ _ C5.out ?_
              (try simp only [Act.put, List.setIfInBounds_toArray, List.set_cons_zero, List.set_cons_succ])
              clear hK K hBq
              clear hHeld
              have hHeld := C5.out
              refine wpAnyG_pure 39 (v := ?_) (fun _ => trivial) (by simp only [List.getElem?_toArray, List.getElem?_cons_succ, List.getElem?_cons_zero]; rfl) (by kernel_rfl) (fun _ _ _ _ _ h => h) ⟨(by rfl), (by intro c h; cases h), ?_⟩ hHeld ?_
              rotate_left
              focus (intro wS hSw; (try replace hSw := HSF.out wS hSw); (try dsimp only at hSw); go_simp; (try with_reducible rfl))
              (try simp only [Act.put, List.setIfInBounds_toArray, List.set_cons_zero, List.set_cons_succ])
              refine wpAnyG_pure 40 (v := ?_) (fun _ => trivial) (by simp only [List.getElem?_toArray, List.getElem?_cons_succ, List.getElem?_cons_zero]; rfl) (by kernel_rfl) (fun _ _ _ _ _ h => h) ⟨(by rfl), (by intro c h; cases h), ?_⟩ hHeld ?_
              rotate_left
              focus (intro wS hSw; (try replace hSw := HSF.out wS hSw); (try dsimp only at hSw); go_simp; (try with_reducible rfl))
              (try simp only [Act.put, List.setIfInBounds_toArray, List.set_cons_zero, List.set_cons_succ])
              refine wpAnyS_done (by kernel_rfl) ?_
              have BJ := hid (HUP.out _ C5.out)
              clear hHeld HF1 HF2 HSF BD C1 C2 C3 C4 C5 HO1 HO2 S7 S8 D28 D37 HIN
              go_wp2_with fail
              go_roundw
              case rel => exact ⟨k + 1, by omega, by go_num, BJ.out⟩
              case measure => simp [intOf]; omega
      case rest =>
        have waB := hid (show Below w1.heap.size w1 wc from hcut)
        clear hcut
        generalize wc = wa at *
        obtain ⟨x0, x1, x2, xz⟩ := HX.out wa waB.out
        have HP1 := hid (plan_any B C D d e0 cD lots bxs wants wa HL.out N3.out (by have := w12.out; omega) (HS2.out _ waB.out) (HS3.out _ waB.out) (HS4.out _ waB.out) HOK.out)
        go_wp2_with fail
        refine HP1.out.mono ?_
        rintro e wb ⟨P1, p1, rfl, hpl, sp1, hB⟩
        have Bb := hid (waB.out.trans (hB.mono waB.out.size))
        have SP1 := hid sp1
        clear hB HP1 waB x0 x1 x2 xz sp1
        obtain ⟨x0, x1, x2, xz⟩ := HX.out wb Bb.out
        have HP2 := hid (rplan_any B C D d e0 cD lots bxs wants wb HL.out N3.out (by have := w12.out; omega) (HS2.out _ Bb.out) (HS3.out _ Bb.out) (HS4.out _ Bb.out) HOK.out)
        go_wp2_with fail
        refine HP2.out.mono ?_
        rintro e wc ⟨P2, p2, rfl, _, sp2, hB⟩
        have Bc := hid (Bb.out.trans (hB.mono Bb.out.size))
        have SP1c := hid ((SP1.out.below hB).more hB.size)
        have SP2 := hid sp2
        have HPL := hid hpl
        clear hB HP2 Bb x0 x1 x2 xz sp2 SP1 hpl
        generalize (planL lots bxs wants).1 = PL at *
        generalize (planL lots bxs wants).2 = PE at *
        obtain ⟨x0, x1, x2, xz⟩ := HX.out wc Bc.out
        have HK1 := hid (pick_any C F e0 cF lots bxs takes wc N3.out (by have := t20.out; omega) (HS3.out _ Bc.out) (HS5.out _ Bc.out) HOK.out)
        go_wp2_with fail
        refine HK1.out.mono ?_
        rintro e wd ⟨P3, p3, rfl, hkl, sk1, hB⟩
        have Bd := hid (Bc.out.trans (hB.mono Bc.out.size))
        have SP1d := hid ((SP1c.out.below hB).more hB.size)
        have SP2d := hid ((SP2.out.below hB).more hB.size)
        have SK1 := hid sk1
        have HKL := hid hkl
        clear hB HK1 Bc x0 x1 x2 xz sk1 SP1c SP2 hkl
        obtain ⟨x0, x1, x2, xz⟩ := HX.out wd Bd.out
        have HK2 := hid (rpick_any C F e0 cF lots bxs takes wd N3.out (by have := t20.out; omega) (HS3.out _ Bd.out) (HS5.out _ Bd.out) HOK.out)
        go_wp2_with fail
        refine HK2.out.mono ?_
        rintro e we ⟨P4, p4, rfl, _, sk2, hB⟩
        have Be := hid (Bd.out.trans (hB.mono Bd.out.size))
        have SP1e := hid ((SP1d.out.below hB).more hB.size)
        have SP2e := hid ((SP2d.out.below hB).more hB.size)
        have SK1e := hid ((SK1.out.below hB).more hB.size)
        have SK2 := hid sk2
        clear hB HK2 Bd x0 x1 x2 xz sk2 SP1d SP2d SK1
        generalize (pickL bxs takes).1 = KL at *
        generalize (pickL bxs takes).2 = KE at *
        obtain ⟨x0, x1, x2, xz⟩ := HX.out we Be.out
        have HC1 := hid (recall_any B d lots n we (by have := N2.out; omega) (HS2.out _ Be.out))
        go_wp2_with fail
        refine HC1.out.mono ?_
        rintro e wf ⟨P5, p5, rfl, hcl, sc1, hB⟩
        have Bf := hid (Be.out.trans (hB.mono Be.out.size))
        have SP1f := hid ((SP1e.out.below hB).more hB.size)
        have SP2f := hid ((SP2e.out.below hB).more hB.size)
        have SK1f := hid ((SK1e.out.below hB).more hB.size)
        have SK2f := hid ((SK2.out.below hB).more hB.size)
        have SC1 := hid sc1
        have HCL := hid hcl
        clear hB HC1 Be x0 x1 x2 xz sc1 SP1e SP2e SK1e SK2 hcl
        obtain ⟨x0, x1, x2, xz⟩ := HX.out wf Bf.out
        have HC2 := hid (rrecall_any B d lots n wf (by have := N2.out; omega) (HS2.out _ Bf.out))
        go_wp2_with fail
        refine HC2.out.mono ?_
        rintro e wg ⟨P6, p6, rfl, _, sc2, hB⟩
        have Bg := hid (Bf.out.trans (hB.mono Bf.out.size))
        have SP1g := hid ((SP1f.out.below hB).more hB.size)
        have SP2g := hid ((SP2f.out.below hB).more hB.size)
        have SK1g := hid ((SK1f.out.below hB).more hB.size)
        have SK2g := hid ((SK2f.out.below hB).more hB.size)
        have SC1g := hid ((SC1.out.below hB).more hB.size)
        have SC2 := hid sc2
        clear hB HC2 Bf x0 x1 x2 xz sc2 SP1f SP2f SK1f SK2f SC1
        generalize (recL lots n).1 = CL at *
        generalize (recL lots n).2 = CE at *
        have HQ1 := hid (sameplans_any P1 P2 p1 p2 PL PL wg HPL.out HPL.out SP1g.out SP2g.out)
        rw [decide_eq_true rfl] at HQ1
        go_wp2_with fail
        refine HQ1.out.mono ?_
        rintro e wh ⟨rfl, hB⟩
        have Bh := hid (Bg.out.trans (hB.mono Bg.out.size))
        have SK1h := hid ((SK1g.out.below hB).more hB.size)
        have SK2h := hid ((SK2g.out.below hB).more hB.size)
        have SC1h := hid ((SC1g.out.below hB).more hB.size)
        have SC2h := hid ((SC2.out.below hB).more hB.size)
        clear hB HQ1 Bg SP1g SP2g SK1g SK2g SC1g SC2
        have HQ2 := hid (sameboxes_any P3 P4 p3 p4 KL KL wh HKL.out HKL.out SK1h.out SK2h.out)
        rw [decide_eq_true rfl] at HQ2
        go_wp2_with fail
        refine HQ2.out.mono ?_
        rintro e wi ⟨rfl, hB⟩
        have Bi := hid (Bh.out.trans (hB.mono Bh.out.size))
        have SC1i := hid ((SC1h.out.below hB).more hB.size)
        have SC2i := hid ((SC2h.out.below hB).more hB.size)
        clear hB HQ2 Bh SK1h SK2h SC1h SC2h
        have HQ3 := hid (samelots_any P5 P6 p5 p6 CL CL wi HCL.out HCL.out SC1i.out SC2i.out)
        rw [decide_eq_true rfl] at HQ3
        go_wp2_with fail
        refine HQ3.out.mono ?_
        rintro e wj ⟨rfl, hB⟩
        have Bj := hid (Bi.out.trans (hB.mono Bi.out.size))
        clear hB HQ3 Bi SC1i SC2i
        have HUP := hid (fun (wq : World) (hq : Below wj.heap.size wj wq) => Bj.out.trans (hq.mono Bj.out.size))
        have HB1 := hid (fun (W' : World) (hW : Below wj.heap.size wj W') => sbytes_any A B C c d e0 ks lots bxs W' (by have := N1.out; omega) (by have := N2.out; omega) (by have := N3.out; omega) HKD.out (HS1.out _ (HUP.out _ hW)) (HS2.out _ (HUP.out _ hW)) (HS3.out _ (HUP.out _ hW)) (HE.out _ (HUP.out _ hW)))
        have HB2 := hid (fun (W' : World) (hW : Below wj.heap.size wj W') => rbytes_any A B C c d e0 ks lots bxs W' (by have := N1.out; omega) (by have := N2.out; omega) (by have := N3.out; omega) HKD.out (HS1.out _ (HUP.out _ hW)) (HS2.out _ (HUP.out _ hW)) (HS3.out _ (HUP.out _ hW)))
        have HU1 := hid (fun (W' : World) (hW : Below wj.heap.size wj W') => units_any C e0 bxs W' (by have := N3.out; omega) (HS3.out _ (HUP.out _ hW)) HCN.out)
        have HU2 := hid (fun (W' : World) (hW : Below wj.heap.size wj W') => runits_any C e0 bxs W' (by have := N3.out; omega) (HS3.out _ (HUP.out _ hW)) HCN.out)
        generalize bs (encStk ks lots bxs) = EB at *
        generalize unitsL bxs = UN at *
        obtain ⟨x0, x1, x2, xz⟩ := HX.out wj Bj.out
        have HSF := hid (fun (wq : World) (hq : Below wj.heap.size wj wq) => HX.out wq (HUP.out wq hq))
        have BD := hid ((Below.refl wj.heap.size wj).drew)
        clear x0 x1 x2 xz
        as_aux_lemma =>
          go_upto_region 36 with fail
          refine wpIn_wide.1 (wpIn_region_S (n := 0) (fun wq => Below wj.heap.size wj wq) [] (by kernel_rfl) BD.out (fun hHeld => ?_))
          generalize wj.drew = wd at *
          refine wpAnyG_pure 0 (v := ?_) (fun _ => trivial) (by simp only [List.getElem?_toArray, List.getElem?_cons_succ, List.getElem?_cons_zero]; rfl) (by kernel_rfl) (fun _ _ _ _ _ h => h) ⟨(by rfl), (by intro c h; cases h), ?_⟩ hHeld ?_
          rotate_left
          focus (intro wS hSw; (try replace hSw := HSF.out wS hSw); (try dsimp only at hSw); go_simp; (try with_reducible rfl))
          (try simp only [Act.put, List.setIfInBounds_toArray, List.set_cons_zero, List.set_cons_succ])
          refine wpAnyG_pure 1 (v := ?_) (fun _ => trivial) (by simp only [List.getElem?_toArray, List.getElem?_cons_succ, List.getElem?_cons_zero]; rfl) (by kernel_rfl) (fun _ _ _ _ _ h => h) ⟨(by rfl), (by intro c h; cases h), ?_⟩ hHeld ?_
          rotate_left
          focus (intro wS hSw; (try replace hSw := HSF.out wS hSw); (try dsimp only at hSw); go_simp; (try with_reducible rfl))
          (try simp only [Act.put, List.setIfInBounds_toArray, List.set_cons_zero, List.set_cons_succ])
          refine wpAnyG_pure 2 (v := ?_) (fun _ => trivial) (by simp only [List.getElem?_toArray, List.getElem?_cons_succ, List.getElem?_cons_zero]; rfl) (by kernel_rfl) (fun _ _ _ _ _ h => h) ⟨(by rfl), (by intro c h; cases h), ?_⟩ hHeld ?_
          rotate_left
          focus (intro wS hSw; (try replace hSw := HSF.out wS hSw); (try dsimp only at hSw); go_simp; (try with_reducible rfl))
          (try simp only [Act.put, List.setIfInBounds_toArray, List.set_cons_zero, List.set_cons_succ])
          refine wpAnyG_take 3 (v := ?_) (fun _ => trivial) (by simp only [List.getElem?_toArray, List.getElem?_cons_succ, List.getElem?_cons_zero]; rfl) (by kernel_rfl) (fun _ _ _ _ _ h => h) ⟨(by rfl), (by intro c h; cases h), ?_⟩ hHeld ?_
          rotate_left
          focus (intro wS hSw; (try replace hSw := HSF.out wS hSw); (try dsimp only at hSw); go_simp; (try with_reducible rfl))
          (try simp only [Act.put, List.setIfInBounds_toArray, List.set_cons_zero, List.set_cons_succ])
          refine wpAnyG_pure 4 (v := ?_) (fun _ => trivial) (by simp only [List.getElem?_toArray, List.getElem?_cons_succ, List.getElem?_cons_zero]; rfl) (by kernel_rfl) (fun _ _ _ _ _ h => h) ⟨(by rfl), (by intro c h; cases h), ?_⟩ hHeld ?_
          rotate_left
          focus (intro wS hSw; (try replace hSw := HSF.out wS hSw); (try dsimp only at hSw); go_simp; (try with_reducible rfl))
          (try simp only [Act.put, List.setIfInBounds_toArray, List.set_cons_zero, List.set_cons_succ])
          refine wpAnyG_take 5 (v := ?_) (fun _ => trivial) (by simp only [List.getElem?_toArray, List.getElem?_cons_succ, List.getElem?_cons_zero]; rfl) (by kernel_rfl) (fun _ _ _ _ _ h => h) ⟨(by rfl), (by intro c h; cases h), ?_⟩ hHeld ?_
          rotate_left
          focus (intro wS hSw; (try replace hSw := HSF.out wS hSw); (try dsimp only at hSw); go_simp; (try with_reducible rfl))
          (try simp only [Act.put, List.setIfInBounds_toArray, List.set_cons_zero, List.set_cons_succ])
          refine wpAnyG_pure 6 (v := ?_) (fun _ => trivial) (by simp only [List.getElem?_toArray, List.getElem?_cons_succ, List.getElem?_cons_zero]; rfl) (by kernel_rfl) (fun _ _ _ _ _ h => h) ⟨(by rfl), (by intro c h; cases h), ?_⟩ hHeld ?_
          rotate_left
          focus (intro wS hSw; (try replace hSw := HSF.out wS hSw); (try dsimp only at hSw); go_simp; (try with_reducible rfl))
          (try simp only [Act.put, List.setIfInBounds_toArray, List.set_cons_zero, List.set_cons_succ])
          refine wpAnyG_take 7 (v := ?_) (fun _ => trivial) (by simp only [List.getElem?_toArray, List.getElem?_cons_succ, List.getElem?_cons_zero]; rfl) (by kernel_rfl) (fun _ _ _ _ _ h => h) ⟨(by rfl), (by intro c h; cases h), ?_⟩ hHeld ?_
          rotate_left
          focus (intro wS hSw; (try replace hSw := HSF.out wS hSw); (try dsimp only at hSw); go_simp; (try with_reducible rfl))
          (try simp only [Act.put, List.setIfInBounds_toArray, List.set_cons_zero, List.set_cons_succ])
          refine wpAnyG_pure 9 (v := ?_) (fun _ => trivial) (by simp only [List.getElem?_toArray, List.getElem?_cons_succ, List.getElem?_cons_zero]; rfl) (by kernel_rfl) (fun _ _ _ _ _ h => h) ⟨(by rfl), (by intro c h; cases h), ?_⟩ hHeld ?_
          rotate_left
          focus (intro wS hSw; (try replace hSw := HSF.out wS hSw); (try dsimp only at hSw); go_simp; (try with_reducible rfl))
          (try simp only [Act.put, List.setIfInBounds_toArray, List.set_cons_zero, List.set_cons_succ])
          refine wpAnyG_take 10 (v := ?_) (fun _ => trivial) (by simp only [List.getElem?_toArray, List.getElem?_cons_succ, List.getElem?_cons_zero]; rfl) (by kernel_rfl) (fun _ _ _ _ _ h => h) ⟨(by rfl), (by intro c h; cases h), ?_⟩ hHeld ?_
          rotate_left
          focus (intro wS hSw; (try replace hSw := HSF.out wS hSw); (try dsimp only at hSw); go_simp; (try with_reducible rfl))
          (try simp only [Act.put, List.setIfInBounds_toArray, List.set_cons_zero, List.set_cons_succ])
          refine wpAnyG_pure 11 (v := ?_) (fun _ => trivial) (by simp only [List.getElem?_toArray, List.getElem?_cons_succ, List.getElem?_cons_zero]; rfl) (by kernel_rfl) (fun _ _ _ _ _ h => h) ⟨(by rfl), (by intro c h; cases h), ?_⟩ hHeld ?_
          rotate_left
          focus (intro wS hSw; (try replace hSw := HSF.out wS hSw); (try dsimp only at hSw); go_simp; (try with_reducible rfl))
          (try simp only [Act.put, List.setIfInBounds_toArray, List.set_cons_zero, List.set_cons_succ])
          refine wpAnyG_take 12 (v := ?_) (fun _ => trivial) (by simp only [List.getElem?_toArray, List.getElem?_cons_succ, List.getElem?_cons_zero]; rfl) (by kernel_rfl) (fun _ _ _ _ _ h => h) ⟨(by rfl), (by intro c h; cases h), ?_⟩ hHeld ?_
          rotate_left
          focus (intro wS hSw; (try replace hSw := HSF.out wS hSw); (try dsimp only at hSw); go_simp; (try with_reducible rfl))
          (try simp only [Act.put, List.setIfInBounds_toArray, List.set_cons_zero, List.set_cons_succ])
          refine wpAnyG_pure 13 (v := ?_) (fun _ => trivial) (by simp only [List.getElem?_toArray, List.getElem?_cons_succ, List.getElem?_cons_zero]; rfl) (by kernel_rfl) (fun _ _ _ _ _ h => h) ⟨(by rfl), (by intro c h; cases h), ?_⟩ hHeld ?_
          rotate_left
          focus (intro wS hSw; (try replace hSw := HSF.out wS hSw); (try dsimp only at hSw); go_simp; (try with_reducible rfl))
          (try simp only [Act.put, List.setIfInBounds_toArray, List.set_cons_zero, List.set_cons_succ])
          refine wpAnyG_take 14 (v := ?_) (fun _ => trivial) (by simp only [List.getElem?_toArray, List.getElem?_cons_succ, List.getElem?_cons_zero]; rfl) (by kernel_rfl) (fun _ _ _ _ _ h => h) ⟨(by rfl), (by intro c h; cases h), ?_⟩ hHeld ?_
          rotate_left
          focus (intro wS hSw; (try replace hSw := HSF.out wS hSw); (try dsimp only at hSw); go_simp; (try with_reducible rfl))
          (try simp only [Act.put, List.setIfInBounds_toArray, List.set_cons_zero, List.set_cons_succ])
          refine wpAnyS_ready [8] (by kernel_rfl) (by simp) (AllReadyS.consG (by simp only [List.getElem?_toArray, List.getElem?_cons_succ, List.getElem?_cons_zero]; rfl) (by rfl) (fun K hK => ?_) AllReadyS.nil)
          refine callS (by intro c h; cases h) (by go_simp; try with_reducible rfl) (HB1.out _ BD.out) ?_
          intro v1 hBq
          have C1 := hid (BD.out.trans (hBq.mono BD.out.size))
          refine hK.out _ _ C1.out ?_
          (try simp only [Act.put, List.setIfInBounds_toArray, List.set_cons_zero, List.set_cons_succ])
          clear hK K hBq
          clear hHeld
          have hHeld := C1.out
          refine wpAnyS_ready [15] (by kernel_rfl) (by simp) (AllReadyS.consG (by simp only [List.getElem?_toArray, List.getElem?_cons_succ, List.getElem?_cons_zero]; rfl) (by rfl) (fun K hK => ?_) AllReadyS.nil)
          refine callS (by intro c h; cases h) (by go_simp; try with_reducible rfl) (HB2.out _ C1.out) ?_
          intro v2 hBq
          have C2 := hid (C1.out.trans (hBq.mono C1.out.size))
          refine hK.out _ _ C2.out ?_
          (try simp only [Act.put, List.setIfInBounds_toArray, List.set_cons_zero, List.set_cons_succ])
          clear hK K hBq
          clear hHeld
          have hHeld := C2.out
          refine wpAnyG_pure 16 (v := ?_) (fun _ => trivial) (by simp only [List.getElem?_toArray, List.getElem?_cons_succ, List.getElem?_cons_zero]; rfl) (by kernel_rfl) (fun _ _ _ _ _ h => h) ⟨(by rfl), (by intro c h; cases h), ?_⟩ hHeld ?_
          rotate_left
          focus (intro wS hSw; (try replace hSw := HSF.out wS hSw); (try dsimp only at hSw); go_simp; (try with_reducible rfl))
          (try simp only [Act.put, List.setIfInBounds_toArray, List.set_cons_zero, List.set_cons_succ])
          refine wpAnyG_pure 17 (v := ?_) (fun _ => trivial) (by simp only [List.getElem?_toArray, List.getElem?_cons_succ, List.getElem?_cons_zero]; rfl) (by kernel_rfl) (fun _ _ _ _ _ h => h) ⟨(by rfl), (by intro c h; cases h), ?_⟩ hHeld ?_
          rotate_left
          focus (intro wS hSw; (try replace hSw := HSF.out wS hSw); (try dsimp only at hSw); go_simp; (try with_reducible rfl))
          (try simp only [Act.put, List.setIfInBounds_toArray, List.set_cons_zero, List.set_cons_succ])
          refine wpAnyG_pure 18 (v := ?_) (fun _ => trivial) (by simp only [List.getElem?_toArray, List.getElem?_cons_succ, List.getElem?_cons_zero]; rfl) (by kernel_rfl) (fun _ _ _ _ _ h => h) ⟨(by rfl), (by intro c h; cases h), ?_⟩ hHeld ?_
          rotate_left
          focus (intro wS hSw; (try replace hSw := HSF.out wS hSw); (try dsimp only at hSw); go_simp; (try with_reducible rfl))
          (try simp only [Act.put, List.setIfInBounds_toArray, List.set_cons_zero, List.set_cons_succ])
          refine wpAnyG_pure 19 (v := ?_) (fun _ => trivial) (by simp only [List.getElem?_toArray, List.getElem?_cons_succ, List.getElem?_cons_zero]; rfl) (by kernel_rfl) (fun _ _ _ _ _ h => h) ⟨(by rfl), (by intro c h; cases h), ?_⟩ hHeld ?_
          rotate_left
          focus (intro wS hSw; (try replace hSw := HSF.out wS hSw); (try dsimp only at hSw); go_simp; (try with_reducible rfl))
          (try simp only [Act.put, List.setIfInBounds_toArray, List.set_cons_zero, List.set_cons_succ])
          refine wpAnyG_take 20 (v := ?_) (fun _ => trivial) (by simp only [List.getElem?_toArray, List.getElem?_cons_succ, List.getElem?_cons_zero]; rfl) (by kernel_rfl) (fun _ _ _ _ _ h => h) ⟨(by rfl), (by intro c h; cases h), ?_⟩ hHeld ?_
          rotate_left
          focus (intro wS hSw; (try replace hSw := HSF.out wS hSw); (try dsimp only at hSw); go_simp; (try with_reducible rfl))
          (try simp only [Act.put, List.setIfInBounds_toArray, List.set_cons_zero, List.set_cons_succ])
          refine wpAnyG_pure 22 (v := ?_) (fun _ => trivial) (by simp only [List.getElem?_toArray, List.getElem?_cons_succ, List.getElem?_cons_zero]; rfl) (by kernel_rfl) (fun _ _ _ _ _ h => h) ⟨(by rfl), (by intro c h; cases h), ?_⟩ hHeld ?_
          rotate_left
          focus (intro wS hSw; (try replace hSw := HSF.out wS hSw); (try dsimp only at hSw); go_simp; (try with_reducible rfl))
          (try simp only [Act.put, List.setIfInBounds_toArray, List.set_cons_zero, List.set_cons_succ])
          refine wpAnyG_take 23 (v := ?_) (fun _ => trivial) (by simp only [List.getElem?_toArray, List.getElem?_cons_succ, List.getElem?_cons_zero]; rfl) (by kernel_rfl) (fun _ _ _ _ _ h => h) ⟨(by rfl), (by intro c h; cases h), ?_⟩ hHeld ?_
          rotate_left
          focus (intro wS hSw; (try replace hSw := HSF.out wS hSw); (try dsimp only at hSw); go_simp; (try with_reducible rfl))
          (try simp only [Act.put, List.setIfInBounds_toArray, List.set_cons_zero, List.set_cons_succ])
          refine wpAnyS_ready [21] (by kernel_rfl) (by simp) (AllReadyS.consG (by simp only [List.getElem?_toArray, List.getElem?_cons_succ, List.getElem?_cons_zero]; rfl) (by rfl) (fun K hK => ?_) AllReadyS.nil)
          refine callS (by intro c h; cases h) (by go_simp; try with_reducible rfl) (HU1.out _ C2.out) ?_
          intro v3 hBq
          have C3 := hid (C2.out.trans (hBq.mono C2.out.size))
          refine hK.out _ _ C3.out ?_
          (try simp only [Act.put, List.setIfInBounds_toArray, List.set_cons_zero, List.set_cons_succ])
          clear hK K hBq
          clear hHeld
          have hHeld := C3.out
          refine wpAnyS_ready [24] (by kernel_rfl) (by simp) (AllReadyS.consG (by simp only [List.getElem?_toArray, List.getElem?_cons_succ, List.getElem?_cons_zero]; rfl) (by rfl) (fun K hK => ?_) AllReadyS.nil)
          refine callS (by intro c h; cases h) (by go_simp; try with_reducible rfl) (HU2.out _ C3.out) ?_
          intro v4 hBq
          have C4 := hid (C3.out.trans (hBq.mono C3.out.size))
          refine hK.out _ _ C4.out ?_
          (try simp only [Act.put, List.setIfInBounds_toArray, List.set_cons_zero, List.set_cons_succ])
          clear hK K hBq
          clear hHeld
          have hHeld := C4.out
          refine wpAnyG_pure 25 (v := ?_) (fun _ => trivial) (by simp only [List.getElem?_toArray, List.getElem?_cons_succ, List.getElem?_cons_zero]; rfl) (by kernel_rfl) (fun _ _ _ _ _ h => h) ⟨(by rfl), (by intro c h; cases h), ?_⟩ hHeld ?_
          rotate_left
          focus (intro wS hSw; (try replace hSw := HSF.out wS hSw); (try dsimp only at hSw); go_simp; (try with_reducible rfl))
          (try simp only [Act.put, List.setIfInBounds_toArray, List.set_cons_zero, List.set_cons_succ])
          refine wpAnyG_pure 26 (v := ?_) (fun _ => trivial) (by simp only [List.getElem?_toArray, List.getElem?_cons_succ, List.getElem?_cons_zero]; rfl) (by kernel_rfl) (fun _ _ _ _ _ h => h) ⟨(by rfl), (by intro c h; cases h), ?_⟩ hHeld ?_
          rotate_left
          focus (intro wS hSw; (try replace hSw := HSF.out wS hSw); (try dsimp only at hSw); go_simp; (try with_reducible rfl))
          (try simp only [Act.put, List.setIfInBounds_toArray, List.set_cons_zero, List.set_cons_succ])
          refine wpAnyG_pure 27 (v := ?_) (fun _ => trivial) (by simp only [List.getElem?_toArray, List.getElem?_cons_succ, List.getElem?_cons_zero]; rfl) (by kernel_rfl) (fun _ _ _ _ _ h => h) ⟨(by rfl), (by intro c h; cases h), ?_⟩ hHeld ?_
          rotate_left
          focus (intro wS hSw; (try replace hSw := HSF.out wS hSw); (try dsimp only at hSw); go_simp; (try with_reducible rfl))
          (try simp only [Act.put, List.setIfInBounds_toArray, List.set_cons_zero, List.set_cons_succ])
          refine wpAnyS_done (by kernel_rfl) ?_
          have BZ := hid (HUP.out _ C4.out)
          clear hHeld HB1 HB2 HU1 HU2 HSF BD C1 C2 C3 C4
          go_wp2_with fail
          go_ret
          exact ⟨rfl, HUPW.out _ BZ.out⟩
end Go.Proofs.YtfpehakllnkaeaaGreatDoor
namespace Go.Proofs.YtfpehakllnkaeaaGreatDoor
open Go.RowKit Go.IntWalk Go.ChangeShapes Go.WideShapes Go.ChangeAt Go.WideElems

theorem own : ownKnob Tryz.prog.godebug = none := by kernel_rfl
theorem laidOut : laidOutB Tryz.prog = true := by kernel_rfl
def laid5 : List (String × DataW Unit) := [("math/bits.deBruijn32tab", Rows.laid_math_bits_deBruijn32tab), ("math/bits.deBruijn64tab", Rows.laid_math_bits_deBruijn64tab), ("internal/strconv.uint64pow10", Rows.laid_internal_strconv_uint64pow10), ("strconv.ErrRange", Rows.laid_strconv_ErrRange), ("strconv.ErrSyntax", Rows.laid_strconv_ErrSyntax)]

theorem starE : ("*errors.errorString" : String) = "*" ++ "errors.errorString" := by decide
theorem rowE (u : TypeId) (h : Tryz.prog.typeName? 3 u = some "*errors.errorString") : u = 150 :=
  typeName_ptr_named (nm := "errors.errorString") (by rw [← starE]; kernel_rfl) (by kernel_rfl) (by decide) u (by rw [← starE]; exact h)
theorem env_of {W : World} (h : laidMetH Tryz.prog laid5 W) : Env W := by
  rw [MakeChecks.laidMetH_plain _ _ _ (by kernel_rfl)] at h
  have h3 := h.tail.tail
  have hs := h3.tail
  have ht := hs.tail
  refine ⟨?_, ?_, ?_⟩
  · exact Lib.tabIs_of_head (g := 3) (t := 144) (e := 132) (n := 20) (by kernel_rfl) (by kernel_rfl) Tryz.underlying144 Tryz.underlying132 (by kernel_rfl) (by kernel_rfl) h3
  · obtain ⟨a, t, h1, _⟩ := laid_sentinel ht (g := 1) (ti := 92) (te := 152) (ts := 9) (by kernel_rfl) (by kernel_rfl) Tryz.underlying92 rowE Tryz.underlying150 Tryz.underlying152 rfl rfl Tryz.underlying9 (by kernel_rfl) (by kernel_rfl)
    exact ⟨_, _, h1⟩
  · obtain ⟨a, t, h1, _⟩ := laid_sentinel hs (g := 2) (ti := 92) (te := 152) (ts := 9) (by kernel_rfl) (by kernel_rfl) Tryz.underlying92 rowE Tryz.underlying150 Tryz.underlying152 rfl rfl Tryz.underlying9 (by kernel_rfl) (by kernel_rfl)
    exact ⟨_, _, h1⟩

theorem opens_str {P : Program} {t : TypeId} (ht : P.underlying t = some .string) (hc : P.cellsOf t = 1) : Opens P t ByteArray := by
  refine ⟨hc, fun h => ?_⟩
  obtain ⟨s, rfl, _, hs⟩ := DataW.trod_string ht h
  exact ⟨s, rfl, hs⟩
set_option maxRecDepth 100000 in
theorem opInt : Opens Tryz.prog 3 Int := opens_int Tryz.underlying3 (by kernel_rfl)
set_option maxRecDepth 100000 in
theorem opStr : Opens Tryz.prog 9 ByteArray := opens_str Tryz.underlying9 (by kernel_rfl)
set_option maxRecDepth 100000 in
theorem opInts : Opens Tryz.prog 36 (List Int) := opens_list Tryz.underlying36 (by kernel_rfl) (by decide) opInt
theorem arg_str {P : Program} {t : TypeId} {H : Type} {enc : TypeId × Value → H} {W : World} {base b0 : Nat} {sp : Nat → Bool} {hd : Bool} {v : Value} {d : DataW H} {p : List MemPlace} (ht : P.underlying t = some .string)
    (hv : Value.okWide P W .any b0 t v) (h : DataW.Trod enc P W base sp hd t v d p) : ∃ s, v = .string s ∧ s.size ≤ maxLen := by
  obtain ⟨n, rfl⟩ := okWide_string ht hv
  obtain ⟨fuel, hf⟩ := h
  obtain ⟨m, hm, _, hw⟩ := DataW.trod_string ht hf
  simp only [Value.cells, List.cons.injEq, and_true, Value.string.injEq] at hm
  exact ⟨n, rfl, by rw [hm]; exact hw⟩
/-- A LAW's end: it returned true, and nothing that was there has changed. -/
theorem post_law {C : Checked} {f : FuncId} {fn : Func} {s : ChangeSpec} {tb : TypeId} (H : Type) (enc : TypeId × Value → H) (hlaid : laidOutB C.prog = true)
    (hres : fn.resultTypes = #[tb]) (hub : C.prog.underlying tb = some .bool) (hvars : s.vars = []) (hread : ∀ t ∈ fn.params.toList, C.prog.readableRec t = true ∧ t < C.prog.types.size)
    (hs : ∀ ds : List (DataW H), ds.length = fn.params.toList.length → s.fn H ds = { results := [.lit (.bool true)], args := ds })
    {W : World} {args : Array Value} {ds gs : List (DataW H)} {before : List MemPlace} (hW : DataW.Whole enc C.prog fn.params.toList s.vars false W args.toList ds gs before)
    (contract : ∀ p, DataW.TrodAll enc C.prog W 0 (fun _ => true) true fn.params.toList args.toList ds p → Calls C.prog f args W fun e W' => e = .returned (.bool true) ∧ Below W.heap.size W W') :
    Calls C.prog f args W fun e W' => ∃ v, e = .returned v ∧ s.post enc C.prog fn false true false false W args v W' := by
  have hW' := hW
  obtain ⟨p, q, hA, hV, rfl, hfz, hnd⟩ := hW
  rw [hvars] at hV
  obtain ⟨rfl, rfl⟩ := trodVars_none hV
  have hlen := trodAll_length _ _ _ _ hA
  refine (contract p hA).mono fun e W' ⟨he, hb⟩ => ⟨_, he, ?_⟩
  have hlt : ∀ x ∈ p ++ [], x.block < W.heap.size := fun x hx => hW'.lt x hx
  rw [List.append_nil] at hlt
  refine ⟨ds, [], p ++ [], [], p, [], hW', ?_, ?_, ?_, ?_, fun h => by cases h⟩
  · rw [List.append_nil, hs ds hlen, hres]
    exact ⟨[], [], ⟨1, by simp [DataW.trod, Value.cells, hub]⟩, rfl, rfl⟩
  · rw [List.append_nil, hs ds hlen]
    exact trodAll_stays hlaid _ _ _ _ hread hA (fun x hx => hb.same (hlt x hx)) (fun x hx => by simpa using hlt x hx)
  · rw [hvars, List.append_nil, hs ds hlen]; rfl
  · exact World.keptBut_mono (fun x hx => ⟨hx, .inr (.inl (by simpa using hx))⟩) (hb.frame (· ∈ p ++ []))
theorem door_met (os : Os) (args : Array Value) : laidMetH Tryz.prog laid5 ((World.doorLaid Tryz.prog 62 os).forCall (fun _ _ => 0) ⟨#[], args, []⟩).memory :=
  laidMetH_of_parts3 (fuel := 8) (laidMet_of_run' 8 (by kernel_rfl) (by kernel_rfl)) (by kernel_rfl) (by kernel_rfl)
theorem met_heap {w w' : World} (hh : w.heap = w'.heap) (h : laidMetH Tryz.prog laid5 w) : laidMetH Tryz.prog laid5 w' := h.of_heap hh
end Go.Proofs.YtfpehakllnkaeaaGreatDoor
namespace Go.Proofs.YtfpehakllnkaeaaGreatDoor
open Go.RowKit Go.IntWalk Go.ChangeShapes Go.WideShapes

set_option maxRecDepth 100000 in
theorem opBool : Opens Tryz.prog 4 Bool := opens_bool Tryz.underlying4 (by kernel_rfl)
set_option maxRecDepth 100000 in
theorem opKind : Opens Tryz.prog 63 Kd := opens_struct Tryz.underlying63 (by kernel_rfl) (opensFs_cons opStr rfl (opensFs_one opInt rfl))
set_option maxRecDepth 100000 in
theorem opLot : Opens Tryz.prog 40 Lt := opens_struct Tryz.underlying40 (by kernel_rfl) (opensFs_cons opInt rfl (opensFs_cons opInt rfl (opensFs_one opBool rfl)))
set_option maxRecDepth 100000 in
theorem opBox : Opens Tryz.prog 45 Bx := opens_struct Tryz.underlying45 (by kernel_rfl) (opensFs_cons opInt rfl (opensFs_cons opInt rfl (opensFs_one opInt rfl)))
set_option maxRecDepth 100000 in
theorem opWant : Opens Tryz.prog 42 Wt := opens_struct Tryz.underlying42 (by kernel_rfl) (opensFs_cons opInt rfl (opensFs_cons opInt rfl (opensFs_one opInt rfl)))
set_option maxRecDepth 100000 in
theorem opTake : Opens Tryz.prog 66 Tk := opens_struct Tryz.underlying66 (by kernel_rfl) (opensFs_cons opInt rfl (opensFs_one opInt rfl))
set_option maxRecDepth 100000 in
theorem opKinds : Opens Tryz.prog 22 (List Kd) := opens_list Tryz.underlying22 (by kernel_rfl) (by decide) opKind
set_option maxRecDepth 100000 in
theorem opLots : Opens Tryz.prog 23 (List Lt) := opens_list Tryz.underlying23 (by kernel_rfl) (by decide) opLot
set_option maxRecDepth 100000 in
theorem opBoxes : Opens Tryz.prog 24 (List Bx) := opens_list Tryz.underlying24 (by kernel_rfl) (by decide) opBox
set_option maxRecDepth 100000 in
theorem opWants : Opens Tryz.prog 27 (List Wt) := opens_list Tryz.underlying27 (by kernel_rfl) (by decide) opWant
set_option maxRecDepth 100000 in
theorem opTakes : Opens Tryz.prog 28 (List Tk) := opens_list Tryz.underlying28 (by kernel_rfl) (by decide) opTake
set_option maxRecDepth 100000 in
theorem opStock : Opens Tryz.prog 26 (List Kd × List Lt × List Bx) := opens_struct Tryz.underlying26 (by kernel_rfl) (opensFs_cons opKinds rfl (opensFs_cons opLots rfl (opensFs_one opBoxes rfl)))
theorem stock_rep {w : World} {cs : List Value} {x : List Kd × List Lt × List Bx} (h : Rep.rep w w.heap.size cs x) : ∃ A B C c d e0, cs = [.slice A x.1.length c, .slice B x.2.1.length d, .slice C x.2.2.length e0] ∧ x.1.length ≤ maxLen ∧ x.2.1.length ≤ maxLen ∧ x.2.2.length ≤ maxLen ∧ SlR w w.heap.size A x.1 ∧ SlR w w.heap.size B x.2.1 ∧ SlR w w.heap.size C x.2.2 := by
  obtain ⟨c1, c2, rfl, _, _, ⟨A, c, rfl, h1, h2, h3⟩, c3, c4, rfl, _, _, ⟨B, d, rfl, h4, h5, h6⟩, C, e, rfl, h7, h8, h9⟩ := h
  exact ⟨A, B, C, c, d, e, rfl, Nat.le_trans h1 h2, Nat.le_trans h4 h5, Nat.le_trans h7 h8, h3, h6, h9⟩
theorem want_rep {w : World} {cs : List Value} {x : Wt} (h : Rep.rep w w.heap.size cs x) : cs = [.int .i64 x.1, .int .i64 x.2.1, .int .i64 x.2.2] ∧ I3 x := by
  obtain ⟨c1, c2, rfl, _, _, ⟨rfl, i0⟩, c3, c4, rfl, _, _, ⟨rfl, i1⟩, rfl, i2⟩ := h
  exact ⟨rfl, i0, i1, i2⟩
end Go.Proofs.YtfpehakllnkaeaaGreatDoor
namespace Go.Proofs.YtfpehakllnkaeaaGreatDoor
open Go.RowKit Go.IntWalk Go.ChangeShapes Go.WideShapes

section
variable {H : Type} {enc : TypeId × Value → H} {P : Program} {w : World} {base : Nat} {spare : Nat → Bool} {held : Bool}
theorem trodAll_five {t0 t1 t2 t3 t4 : TypeId} {args : Array Value} {ds : List (DataW H)} {ps : List MemPlace} (h : DataW.TrodAll enc P w base spare held [t0, t1, t2, t3, t4] args.toList ds ps) :
    ∃ v0 v1 v2 v3 v4 d0 d1 d2 d3 d4 p0 p1 p2 p3 p4, args = #[v0, v1, v2, v3, v4] ∧ ds = [d0, d1, d2, d3, d4] ∧ ps = p0 ++ (p1 ++ (p2 ++ (p3 ++ p4))) ∧ DataW.Trod enc P w base spare held t0 v0 d0 p0 ∧ DataW.Trod enc P w base spare held t1 v1 d1 p1 ∧ DataW.Trod enc P w base spare held t2 v2 d2 p2 ∧ DataW.Trod enc P w base spare held t3 v3 d3 p3 ∧ DataW.Trod enc P w base spare held t4 v4 d4 p4 := by
  obtain ⟨v0, vs0, d0, ds0, p0, q0, hargs, rfl, rfl, h0, r0⟩ := trodAll_cons h
  obtain ⟨v1, vs1, d1, ds1, p1, q1, rfl, rfl, rfl, h1, r1⟩ := trodAll_cons r0
  obtain ⟨v2, vs2, d2, ds2, p2, q2, rfl, rfl, rfl, h2, r2⟩ := trodAll_cons r1
  obtain ⟨v3, vs3, d3, ds3, p3, q3, rfl, rfl, rfl, h3, r3⟩ := trodAll_cons r2
  obtain ⟨v4, vs4, d4, ds4, p4, q4, rfl, rfl, rfl, h4, r4⟩ := trodAll_cons r3
  obtain ⟨rfl, rfl, rfl⟩ := trodAll_nil r4
  exact ⟨v0, v1, v2, v3, v4, d0, d1, d2, d3, d4, p0, p1, p2, p3, p4, by cases args; simp_all, rfl, by simp, h0, h1, h2, h3, h4⟩
end
end Go.Proofs.YtfpehakllnkaeaaGreatDoor
namespace Go.Proofs.YtfpehakllnkaeaaGreatDoor
open Go.RowKit Go.IntWalk Go.ChangeShapes Go.WideShapes Go.ChangeAt Go.WideElems

theorem stockTells_read : ∀ t ∈ Tryz.f3.params.toList, Tryz.prog.readableRec t = true ∧ t < Tryz.prog.types.size := by
  intro t ht
  have : t = 26 ∨ t = 27 ∨ t = 28 ∨ t = 3 ∨ t = 9 := by
    rw [Tryz.params3] at ht; simpa using ht
  rcases this with rfl | rfl | rfl | rfl | rfl
  · exact ⟨by kernel_rfl, of_decide_eq_true (by kernel_rfl)⟩
  · exact ⟨by kernel_rfl, of_decide_eq_true (by kernel_rfl)⟩
  · exact ⟨by kernel_rfl, of_decide_eq_true (by kernel_rfl)⟩
  · exact ⟨by kernel_rfl, of_decide_eq_true (by kernel_rfl)⟩
  · exact ⟨by kernel_rfl, of_decide_eq_true (by kernel_rfl)⟩

set_option maxRecDepth 100000 in
theorem stockTells_lifted (os : Os) (started : os.Started) (H : Type) (enc : TypeId × Value → H) :
    ReturnsInHanded {} Tryz.checked os 3 .any (fun w args => (Rows.stockTellsSpec.pre enc Tryz.prog Tryz.f3 [] false w args ∧ laidMetH Tryz.prog laid5 w) ∧ sizedMet enc Tryz.prog Tryz.f3 (OpenSpec.ofChange Rows.stockTellsSpec) false w args)
      (Rows.stockTellsSpec.post enc Tryz.prog Tryz.f3 false true false false) := by
  refine returnsInHanded_of_change_and (C := Tryz.checked) (X := fun w _ => laidMetH Tryz.prog laid5 w) (fun w w' args hh h => met_heap (w := w) (w' := w') hh h) own started (by kernel_rfl) Tryz.func3
    (ChangeSpec.witness_shaped (enc := enc) (C := Tryz.checked) (os := os) (X := fun w _ => laidMetH Tryz.prog laid5 w) false (World.doorLaid Tryz.prog 62 os) #[.agg #[.slice none 0 0, .slice none 0 0, .slice none 0 0], .slice none 0 0, .slice none 0 0, .int .i64 0, .string ⟨#[]⟩] 8 rfl (World.shaped_of_RefB (by kernel_rfl) (by kernel_rfl)) (by kernel_rfl) (by kernel_rfl) (by kernel_rfl) (door_met os _)) ?_
  intro W base args ds gs before hval0 hW _ _ hL _
  refine post_law (C := Tryz.checked) (f := 3) (fn := Tryz.f3) (s := Rows.stockTellsSpec) (tb := 4) H enc laidOut rfl Tryz.underlying4 rfl stockTells_read (by
      intro ds hd
      match ds, hd with
      | [d0, d1, d2, d3, d4], _ => rfl) hW ?_
  intro p hA
  have hval : ∀ (j : Nat) t v, Tryz.f3.params[j]? = some t → args[j]? = some v → Value.okWide Tryz.prog W .any base t v := hval0
  have hA : DataW.TrodAll enc Tryz.prog W 0 (fun _ => true) true Tryz.f3.params.toList args.toList ds p := hA
  rw [Tryz.params3] at hA hval
  obtain ⟨v0, v1, v2, v3, v4, d0, d1, d2, d3, d4, p0_, p1_, p2_, p3_, p4_, rfl, rfl, rfl, h0, h1, h2, h3, h4⟩ := trodAll_five hA
  obtain ⟨cs0, x0, rfl, r0⟩ := arg_struct Tryz.underlying26 opStock (hval 0 _ _ rfl rfl) h0
  obtain ⟨A0, B0, C0, c0, d0_, e0, rfl, hk0, hl0, hb0, sk0, sl0, sb0⟩ := stock_rep r0
  obtain ⟨A1, c1, l1, rfl, p11, p12, p13⟩ := arg_slice Tryz.underlying27 opWants (hval 1 _ _ rfl rfl) h1
  obtain ⟨A2, c2, l2, rfl, p21, p22, p23⟩ := arg_slice Tryz.underlying28 opTakes (hval 2 _ _ rfl rfl) h2
  obtain ⟨n3, rfl, p3⟩ := arg_int Tryz.underlying3 (hval 3 _ _ rfl rfl) h3
  obtain ⟨s4, rfl, p4⟩ := arg_str Tryz.underlying9 (hval 4 _ _ rfl rfl) h4
  exact stells_any A0 B0 C0 A1 A2 c0 d0_ e0 c1 c2 x0.1 x0.2.1 x0.2.2 l1 l2 n3 s4 W hk0 hl0 hb0 (Nat.le_trans p11 p12) (Nat.le_trans p21 p22) sk0 sl0 sb0 p13 p23 (env_of hL)

theorem stockTells_said : Rows.StockTellsSaid :=
  OpenClaim.holds_of_wide 3 Tryz.f3 rfl rfl rfl rfl rfl rfl rfl ⟨rfl, rfl, rfl, rfl, rfl⟩ rfl rfl rfl rfl rfl (by kernel_rfl) Tryz.func3 (by kernel_rfl)
    (of_decide_eq_true (by kernel_rfl)) (by unfold Func.isWrapper; first | (rw [if_pos (by decide +kernel)]; kernel_rfl) | (rw [if_neg (by decide +kernel)]; exact ⟨rfl, rfl⟩))
    (fun os started H enc _ => stockTells_lifted os started H enc)
theorem stockTells_plain (f : FuncId) (fn : Func) (hf : Tryz.pinned.checked.prog.funcNamed "taquin/taquinlaw35.StockTells" = some f) (hfn : Tryz.pinned.checked.prog.funcs[f]? = some fn) :
    true = Tryz.pinned.checked.prog.looks [] ∧ ∀ (j : Nat) t, fn.params[j]? = some t → Tryz.pinned.checked.prog.wantsStandIn t = false := by
  obtain rfl : f = 3 := Option.some.inj ((show Tryz.prog.funcNamed "taquin/taquinlaw35.StockTells" = some 3 by kernel_rfl).symm.trans hf) |>.symm
  obtain rfl : fn = Tryz.f3 := (Option.some.inj (Tryz.func3.symm.trans hfn)).symm
  refine ⟨by kernel_rfl, fun j t ht => ?_⟩
  rw [Tryz.params3] at ht
  have this : t = 26 ∨ t = 27 ∨ t = 28 ∨ t = 3 ∨ t = 9 := by simpa using Array.mem_of_getElem? ht
  rcases this with rfl | rfl | rfl | rfl | rfl
  · exact (show Tryz.prog.wantsStandIn 26 = false by kernel_rfl)
  · exact (show Tryz.prog.wantsStandIn 27 = false by kernel_rfl)
  · exact (show Tryz.prog.wantsStandIn 28 = false by kernel_rfl)
  · exact (show Tryz.prog.wantsStandIn 3 = false by kernel_rfl)
  · exact (show Tryz.prog.wantsStandIn 9 = false by kernel_rfl)
theorem stockTells_holds : Rows.StockTellsCardSaid :=
  Claim7.holds_tied_plain_at .later [] _ _ _ _ stockTells_said (fun _ h => by cases h) (by kernel_rfl) (fun _ h => by cases h) stockTells_row_tie rfl ⟨rfl, rfl⟩ (by kernel_rfl) rfl stockTells_plain (by kernel_rfl)
#print axioms stockTells_holds
end Go.Proofs.YtfpehakllnkaeaaGreatDoor
