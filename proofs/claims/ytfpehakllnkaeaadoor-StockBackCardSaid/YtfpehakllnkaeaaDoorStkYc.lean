
/- Stock: StockBack, the walk. -/
import Derived.Test.YtfpehakllnkaeaaDoorStkYb
import Derived.Test.YtfpehakllnkaeaaDoorStkYs
import Derived.Test.YtfpehakllnkaeaaDoorStkT
set_option linter.unusedSimpArgs false
set_option linter.unusedVariables false
namespace Go.Proofs.YtfpehakllnkaeaaDoor
open Go.RowKit Go.IntWalk

theorem readStk_some {s : List UInt8} {x : List Kd × List Lt × List Bx} (h : readStk s = some x) : rightS x.1 x.2.1 x.2.2 = true ∧ encStk x.1 x.2.1 x.2.2 = s := by
  unfold readStk at h
  split at h
  · rename_i hc
    injection h with h
    subst h
    exact ⟨hc.2.1, hc.2.2⟩
  · cases h
theorem sread_two (s : ByteArray) (w : World) (hs : s.size ≤ 90000) (he : Env w) :
    Calls Tryd.prog 6 #[.string s] w fun e w' => ∃ (ok : Bool) (A1 : Option Addr) (c1 : Nat) (A2 : Option Addr) (c2 : Nat) (A3 : Option Addr) (c3 : Nat) (L1 : List Kd) (L2 : List Lt) (L3 : List Bx),
      e = .returned (.tuple #[.slice A1 L1.length c1, .slice A2 L2.length c2, .slice A3 L3.length c3, .bool ok]) ∧ SlR w' w'.heap.size A1 L1 ∧ SlR w' w'.heap.size A2 L2 ∧ SlR w' w'.heap.size A3 L3 ∧ Below w.heap.size w w' ∧
      (ok = true → rightS L1 L2 L3 = true ∧ encStk L1 L2 L3 = s.data.toList ∧ ∀ k ∈ L1, I64 k.2) ∧ (ok = false → L1 = [] ∧ L2 = [] ∧ L3 = []) := by
  refine (sread_any s w hs he).mono ?_
  intro e w' h
  cases hr : readStk s.data.toList with
  | none =>
    rw [hr] at h
    obtain ⟨rfl, hB⟩ := h
    exact ⟨false, none, 0, none, 0, none, 0, [], [], [], rfl, SlR.nil, SlR.nil, SlR.nil, hB, (fun h => by cases h), fun _ => ⟨rfl, rfl, rfl⟩⟩
  | some x =>
    rw [hr] at h
    obtain ⟨A, c, B, d, C, e0, rfl, s1, s2, s3, hi, hB⟩ := h
    have hx := readStk_some hr
    exact ⟨true, A, c, B, d, C, e0, x.1, x.2.1, x.2.2, rfl, s1, s2, s3, hB, fun _ => ⟨hx.1, hx.2, hi⟩, fun h => by cases h⟩
theorem few_enc {ks : List Kd} {lots : List Lt} {bxs : List Bx} (h : fewS ks lots bxs 20 = true) (hk : ∀ k ∈ ks, KdI k) (hl : ∀ l ∈ lots, I64 l.1 ∧ I64 l.2.1) (hb : ∀ x ∈ bxs, P3I x) : (encStk ks lots bxs).length ≤ 90000 := by
  unfold fewS at h
  simp only [Bool.and_eq_true, decide_eq_true_eq] at h
  have f1 := flat_bd encKd 1100 ks (fun x hx => encKd_le x (hk x hx))
  have f2 := flat_bd encLt 66 lots (fun x hx => encLt_le x (hl x hx))
  have f3 := flat_bd enc3 66 bxs (fun x hx => enc3_le x (hb x hx))
  have z1 := encI_le22 ks.length ⟨by omega, by omega⟩
  have z2 := encI_le22 lots.length ⟨by omega, by omega⟩
  have z3 := encI_le22 bxs.length ⟨by omega, by omega⟩
  unfold encStk
  simp only [List.length_append]
  omega
set_option maxRecDepth 100000 in
set_option maxHeartbeats 8000000 in
theorem stback_any (A B C : Option Addr) (c d e0 : Nat) (ks : List Kd) (lots : List Lt) (bxs : List Bx) (s : ByteArray) (w : World) (hk : ks.length ≤ maxLen) (hl : lots.length ≤ maxLen) (hb : bxs.length ≤ maxLen) (h1 : SlR w w.heap.size A ks) (h2 : SlR w w.heap.size B lots) (h3 : SlR w w.heap.size C bxs) (he : Env w) :
    Calls Tryd.prog 3 #[.agg #[.slice A ks.length c, .slice B lots.length d, .slice C bxs.length e0], .string s] w fun e w' => e = .returned (.bool true) ∧ Below w.heap.size w w' := by
  have HK := hid hk; have HL := hid hl; have HB := hid hb
  have IK := hid (fun k hk => (kdRK.oks h1 k hk).2)
  have IL := hid (lts_I h2)
  have IB := hid (bxs_I h3)
  clear hk hl hb
  obtain ⟨w1, hw1⟩ : ∃ w1, w1 = w.alloc (Obj.cells #[.slice A ks.length c, .slice B lots.length d, .slice C bxs.length e0] 26) := ⟨_, rfl⟩
  have B1 := hid (show Below w.heap.size w w1 by rw [hw1]; (repeat (first | exact Below.refl _ _ | assumption | refine below_drewN ?_ _ | refine Below.drew ?_ | refine Below.alloc ?_ (by (try simp); (try omega)) _ | refine Below.setCell ?_ (by (try simp); (try omega)) _)))
  have X1 := (show Blk w1 w.heap.size 26 #[.slice A ks.length c, .slice B lots.length d, .slice C bxs.length e0] by rw [hw1]; exact Blk.new w _ _)
  have HX := hid (fun (W' : World) (hW : Below w1.heap.size w1 W') => And.intro (show W'.cell? ⟨w.heap.size, 0, none⟩ = some (.slice A ks.length c) from (bcell hW _ _ X1.lt).trans (by rw [X1.cell]; rfl)) (And.intro (show W'.cell? ⟨w.heap.size, 1, none⟩ = some (.slice B lots.length d) from (bcell hW _ _ X1.lt).trans (by rw [X1.cell]; rfl)) (And.intro (show W'.cell? ⟨w.heap.size, 2, none⟩ = some (.slice C bxs.length e0) from (bcell hW _ _ X1.lt).trans (by rw [X1.cell]; rfl)) (Nat.lt_of_lt_of_le X1.lt hW.size))))
  have HS1 := hid (fun (W' : World) (hW : Below w1.heap.size w1 W') => show SlR W' W'.heap.size A ks from (h1.below (B1.out.trans (hW.mono B1.out.size))).more (B1.out.trans (hW.mono B1.out.size)).size)
  have HS2 := hid (fun (W' : World) (hW : Below w1.heap.size w1 W') => show SlR W' W'.heap.size B lots from (h2.below (B1.out.trans (hW.mono B1.out.size))).more (B1.out.trans (hW.mono B1.out.size)).size)
  have HS3 := hid (fun (W' : World) (hW : Below w1.heap.size w1 W') => show SlR W' W'.heap.size C bxs from (h3.below (B1.out.trans (hW.mono B1.out.size))).more (B1.out.trans (hW.mono B1.out.size)).size)
  have HE := hid (fun (W' : World) (hW : Below w1.heap.size w1 W') => he.below (B1.out.trans (hW.mono B1.out.size)))
  have HEND := hid (fun (W' : World) (hW : Below w1.heap.size w1 W') => B1.out.trans (hW.mono B1.out.size))
  have HSM := hid (ssmall_any w1)
  clear h1 h2 h3 X1 B1
  go_enter Tryd.func3, Tryd.ntmps3
  go_upto_region 1 with fail
  rw [← hw1]
  clear hw1
  go_wp2_with fail
  refine HSM.out.mono ?_
  rintro e w2 ⟨rfl, hB⟩
  have B2 := hid hB
  clear hB HSM
  by_cases h400 : (400 : Int) < s.size
  · go_wp2_with fail
    go_ret
    exact ⟨rfl, HEND.out _ B2.out⟩
  have HRD := hid (sread_two s w2 (by omega) (HE.out _ B2.out))
  go_wp2_with fail
  clear h400
  refine HRD.out.mono ?_
  rintro e w3 ⟨ok, A1, c1, A2, c2, A3, c3, L1, L2, L3, rfl, s1, s2, s3, hB, hyes, hno⟩
  have B3 := hid (B2.out.trans (hB.mono B2.out.size))
  have S1 := hid s1; have S2 := hid s2; have S3 := hid s3
  have HY := hid hyes; have HNO := hid hno
  clear hB HRD B2 s1 s2 s3 hyes hno
  go_upto_if 26 with fail
  go_cut [] (fun wx => Below w1.heap.size w1 wx)
  case first =>
    cases ok with
    | true =>
      as_aux_lemma =>
        obtain ⟨hr, hen, hki⟩ := HY.out rfl
        obtain ⟨k1, k2, k3, k4⟩ := right_kd hr hki
        have HRT := hid (sright_any A1 A2 A3 c1 c2 c3 L1 L2 L3 w3 (by omega) (by unfold maxLen; omega) (by unfold maxLen; omega) S1.out S2.out S3.out)
        rw [hr] at HRT
        have HBY := hid (fun (W' : World) (hW : Below w3.heap.size w3 W') => sbytes_any A1 A2 A3 c1 c2 c3 L1 L2 L3 W' (by omega) (by omega) (by omega) k4 ((S1.out.below hW).more hW.size) ((S2.out.below hW).more hW.size) ((S3.out.below hW).more hW.size) (HE.out _ (B3.out.trans (hW.mono B3.out.size))))
        rw [hen, bs_of] at HBY
        clear hr hen hki k1 k2 k3 k4
        go_wp2_with fail
        refine HRT.out.mono ?_
        rintro e w4 ⟨rfl, hB4⟩
        have C4 := hid hB4
        clear hB4
        go_wp2_with fail
        refine (HBY.out _ C4.out).mono ?_
        rintro e w5 ⟨rfl, hB5⟩
        have B5 := hid (B3.out.trans ((C4.out.trans (hB5.mono C4.out.size)).mono B3.out.size))
        clear hB5
        go_wp2_with fail
        go_meet
        exact B5.out
    | false =>
      as_aux_lemma =>
        obtain ⟨rfl, rfl, rfl⟩ := HNO.out rfl
        go_wp2_with fail
        go_meet
        exact B3.out
  case rest =>
    have B4 := hid (show Below w1.heap.size w1 wc from hcut)
    clear hcut S1 S2 S3 HY HNO B3
    generalize wc = w4 at *
    obtain ⟨x0, x1, x2, xz⟩ := HX.out w4 B4.out
    have HG := hid (given_any A B C c d e0 ks lots bxs w4 HK.out HL.out HB.out (HS1.out _ B4.out) (HS2.out _ B4.out) (HS3.out _ B4.out))
    cases hgv : (fewS ks lots bxs 20 && rightS ks lots bxs) with
    | false =>
      as_aux_lemma =>
        rw [hgv] at HG
        clear hgv
        go_wp2_with fail
        refine HG.out.mono ?_
        rintro e w5 ⟨rfl, hB5⟩
        have B5 := hid (B4.out.trans (hB5.mono B4.out.size))
        clear hB5
        go_wp2_with fail
        go_ret
        exact ⟨rfl, HEND.out _ B5.out⟩
    | true =>
      rw [hgv] at HG
      rw [Bool.and_eq_true] at hgv
      obtain ⟨k1, k2, k3, k4⟩ := right_kd hgv.2 IK.out
      have HRS := hid (readStk_enc ks lots bxs (by omega) (by omega) (by omega) k4 IL.out IB.out hgv.2)
      have hsz : (encStk ks lots bxs).length ≤ 90000 := few_enc hgv.1 k4 IL.out IB.out
      have HZ := hid (show (bs (encStk ks lots bxs)).size ≤ 90000 by rw [bs_size]; exact hsz)
      have HBY := hid (fun (W' : World) (hW : Below w1.heap.size w1 W') => sbytes_any A B C c d e0 ks lots bxs W' (by omega) (by omega) (by omega) k4 (HS1.out _ hW) (HS2.out _ hW) (HS3.out _ hW) (HE.out _ hW))
      clear hgv k1 k2 k3 k4 hsz
      go_wp2_with fail
      refine HG.out.mono ?_
      rintro e w5 ⟨rfl, hB5⟩
      have B5 := hid (B4.out.trans (hB5.mono B4.out.size))
      clear hB5 x0 x1 x2 xz HG B4
      obtain ⟨x0, x1, x2, xz⟩ := HX.out w5 B5.out
      go_wp2_with fail
      refine (HBY.out _ B5.out).mono ?_
      rintro e w6 ⟨rfl, hB6⟩
      have B6 := hid (B5.out.trans (hB6.mono B5.out.size))
      clear hB6 x0 x1 x2 xz HBY B5
      have HRD := hid (sread_any (bs (encStk ks lots bxs)) w6 HZ.out (HE.out _ B6.out))
      rw [show (bs (encStk ks lots bxs)).data.toList = encStk ks lots bxs by simp [bs], HRS.out] at HRD
      have hz9 := HZ.out
      go_wp2_with fail
      refine HRD.out.mono ?_
      rintro e w7 ⟨A7, c7, V7, d7, C7, e7, rfl, q1, q2, q3, _, hB7⟩
      have B7 := hid (B6.out.trans (hB7.mono B6.out.size))
      have Q1 := hid q1; have Q2 := hid q2; have Q3 := hid q3
      clear hB7 HRD B6 hz9 q1 q2 q3 HZ
      obtain ⟨x0, x1, x2, xz⟩ := HX.out w7 B7.out
      have HSM := hid (same_any A7 V7 C7 A B C c7 d7 e7 c d e0 ks ks lots lots bxs bxs w7 HK.out HK.out HL.out HL.out HB.out HB.out Q1.out Q2.out Q3.out (HS1.out _ B7.out) (HS2.out _ B7.out) (HS3.out _ B7.out))
      go_wp2_with fail
      refine HSM.out.mono ?_
      rintro e w8 ⟨rfl, hB8⟩
      have B8 := hid (B7.out.trans (hB8.mono B7.out.size))
      clear hB8
      go_wp2_with fail
      go_ret
      exact ⟨ret_bool (by simp), HEND.out _ B8.out⟩
end Go.Proofs.YtfpehakllnkaeaaDoor
