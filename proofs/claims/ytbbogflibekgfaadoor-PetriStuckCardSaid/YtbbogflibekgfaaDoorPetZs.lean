
/- Petri: PetriStuck, the walk. -/
import Derived.Test.YtbbogflibekgfaaDoorPetZp
import Derived.Test.YtbbogflibekgfaaDoorPetV
set_option linter.unusedSimpArgs false
set_option linter.unusedVariables false
namespace Go.Proofs.YtbbogflibekgfaaDoor
open Go.RowKit Go.IntWalk Go.Shelf

theorem emptyK_succ (m s : List Int) (k : Nat) (hk : k < s.length) : emptyN m (s.take (k + 1)) = (emptyN m (s.take k) && decide (m.getD s[k].toNat 0 = 0)) := by
  unfold emptyN
  rw [List.take_add_one, List.getElem?_eq_getElem hk, List.all_append]
  simp
theorem zero_i64 (m : List Int) (k : Nat) (hk : k ≤ 1000) : ∀ x ∈ zeroK m k, I64 x := fun x hx => by have := zeroK_mem.1 hx; unfold I64; omega
set_option maxRecDepth 100000 in
set_option maxHeartbeats 8000000 in
theorem pstuck_any (n : Int) (A : Option Addr) (c : Nat) (T : List Tr) (A2 : Option Addr) (d2 : Nat) (m : List Int) (w : World) (hl : T.length ≤ maxLen) (h : SlR w w.heap.size A T) (hm0 : m.length ≤ maxLen) (hM0 : SlR w w.heap.size A2 m) (hE : Env w) :
    Calls Tryd.prog 3 #[.agg #[.int .i64 n, .slice A T.length c], .slice A2 m.length d2] w fun e w' => e = .returned (.bool true) ∧ Below w.heap.size w w' := by
  obtain ⟨w1, hw1⟩ : ∃ w1, w1 = (w.alloc (Obj.cells #[.int .i64 n, .slice A T.length c] 24)) := ⟨_, rfl⟩
  have B1 := hid (show Below w.heap.size w w1 by rw [hw1]; (repeat (first | exact Below.refl _ _ | assumption | refine below_drewN ?_ _ | refine Below.drew ?_ | refine Below.alloc ?_ (by (try simp); (try omega)) _ | refine Below.setCell ?_ (by (try simp); (try omega)) _)))
  have X1 := hid (show Blk w1 w.heap.size 24 #[.int .i64 n, .slice A T.length c] by rw [hw1]; exact Blk.new w _ _)
  have HS := hid (psmall_any w1 (hE.below B1.out hE.pos))
  have HE := hid hE
  have H := hid h
  have hl2 := hid hl
  have HM0 := hid hM0
  have hm2 := hid hm0
  unfold maxLen at hm0
  clear h hE hl hM0
  go_enter Tryd.func3, Tryd.ntmps3
  go_upto_region 1 with fail
  rw [← hw1]
  clear hw1
  go_upto_region 2 with (go_at_call 8; refine HS.out.mono ?_; rintro e w2 ⟨rfl, hB⟩)
  have B2 := hid (B1.out.trans (hB.mono B1.out.size))
  have X2 := hid (X1.out.below hB X1.out.lt)
  clear hB HS B1 X1
  have x0 := X2.out.cell 0; have x1 := X2.out.cell 1; have xz := X2.out.lt
  simp at x0 x1
  have HT0 := hid (fun (W : World) (hW : Below w2.heap.size w2 W) => show SlR W W.heap.size A T from ((H.out.below (B2.out.trans (hW.mono B2.out.size))).more (B2.out.trans (hW.mono B2.out.size)).size))
  have HMt := hid (fun (W : World) (hW : Below w2.heap.size w2 W) => show SlR W W.heap.size A2 m from ((HM0.out.below (B2.out.trans (hW.mono B2.out.size))).more (B2.out.trans (hW.mono B2.out.size)).size))
  have HFI := hid (fits_any n A c T A2 d2 m 8 12 w2 hl2.out (HT0.out _ (Below.refl _ _)) hm2.out (HMt.out _ (Below.refl _ _)))
  have HX := hid (fun (W : World) (hW : Below w2.heap.size w2 W) => show W.cell? ⟨w.heap.size, 0, none⟩ = some (.int .i64 n) ∧ W.cell? ⟨w.heap.size, 1, none⟩ = some (.slice A T.length c) ∧ w.heap.size < W.heap.size from
    ⟨(bcell hW _ _ xz).trans x0, (bcell hW _ _ xz).trans x1, Nat.lt_of_lt_of_le xz hW.size⟩)
  have HBF := hid (fun (W : World) (hW : Below w2.heap.size w2 W) => show Below w.heap.size w W from B2.out.trans (hW.mono B2.out.size))
  have hfp := hid (show fitsN n T m 8 12 = true → netOK (n, T) = true ∧ T.length ≤ 12 ∧ n ≤ 8 ∧ markOK (n, T) m = true from fun h => by
    unfold fitsN fewN at h
    simp only [Bool.and_eq_true, decide_eq_true_eq] at h
    exact ⟨h.1.1.2, by have := h.1.1.1.1.2; omega, h.1.1.1.1.1, h.2⟩)
  generalize fitsN n T m 8 12 = ok at *
  cases ok with
  | false =>
    as_aux_lemma =>
      go_wp2_with (go_at_call 9; refine HFI.out.mono ?_; rintro e w3 ⟨rfl, hB⟩)
      have BW := hid (HBF.out _ hB)
      clear hB
      go_ret
      exact ⟨rfl, BW.out⟩
  | true =>
  obtain ⟨hok, h12, hn8, hmk⟩ := hfp.out (by first | rfl | trivial)
  have hn0 : 0 ≤ n := by
    simp only [netOK, Bool.and_eq_true, decide_eq_true_eq] at hok
    exact hok.1.1.1
  obtain ⟨N, hN⟩ : ∃ N : Nat, n = N := ⟨n.toNat, by omega⟩
  subst hN
  have hN8 : N ≤ 8 := by omega
  have HOK := hid hok
  have HMK := hid hmk
  have hml : m.length = N := by
    simp only [markOK, Bool.and_eq_true, decide_eq_true_eq] at hmk
    omega
  have HML := hid hml
  clear hok hmk hfp hn8 hn0 hml
  go_wp2_with fail
  refine HFI.out.mono ?_
  rintro e w3 ⟨rfl, hB⟩
  have B3 := hid hB
  clear hB HFI x0 x1 xz
  obtain ⟨x0, x1, xz⟩ := HX.out w3 B3.out
  by_cases hT0 : T.length = 0
  case pos =>
    as_aux_lemma =>
      have hT0i : (T.length : Int) = 0 := by omega
      go_wp2_with fail
      go_ret
      exact ⟨rfl, HBF.out _ B3.out⟩
  have hT0i : ¬ (T.length : Int) = 0 := by omega
  go_upto_region 5 with fail
  go_loopw [6] (fun i wr => ∃ k : Nat, k ≤ T.length ∧ i = .int .i64 k ∧ w3 = wr) (fun i _ => T.length - (intOf i).toNat)
  case atStart => exact ⟨0, by omega, rfl, rfl⟩
  case round =>
    obtain ⟨k, hk, rfl, rfl⟩ := hrel
    by_cases hlt : k < T.length
    case pos =>
      as_aux_lemma =>
        have hlt' : (k : Int) < T.length := by omega
        obtain ⟨b, off, A1, c1, A3, c3, rfl, hb, g0, g1, hs1, hs2, hl1, hl3⟩ := (HT0.out w3 B3.out).tr hlt
        clear hs1 hs2 hl3 g1
        unfold maxLen at hl1
        generalize T[k] = t at *
        by_cases h0 : t.1.length = 0
        · have h0i : (t.1.length : Int) = 0 := by omega
          go_wp2_with fail
          go_ret
          exact ⟨rfl, HBF.out _ B3.out⟩
        · have h0i : ¬ (t.1.length : Int) = 0 := by omega
          go_wp2_with fail
          go_roundw
          case rel => exact ⟨k + 1, by omega, by go_num, by first | rfl | trivial⟩
          case measure => simp [intOf]; omega
    case neg =>
    obtain rfl : k = T.length := by omega
    clear hk hlt
    have HLV := hid (live_any (N : Int) A c T A2 d2 m w3 (by omega) (HT0.out _ B3.out) hm2.out (HMt.out _ B3.out) (by have := HML.out; omega) HOK.out)
    have hlvl := hid (liveK_len T m T.length)
    go_wp2_with fail
    refine HLV.out.mono ?_
    rintro e w4 ⟨A5, c5, rfl, ho, hB⟩
    have B4 := hid (B3.out.trans (hB.mono B3.out.size))
    clear hB ho HLV x0 x1 xz
    by_cases hlv : (liveK T m T.length).length = 0
    case neg =>
      as_aux_lemma =>
        have hlvi : 0 < (((liveK T m T.length).length : Nat) : Int) := by omega
        generalize (liveK T m T.length).length = lv at *
        go_wp2_with fail
        go_ret
        exact ⟨rfl, HBF.out _ B4.out⟩
    have HPL := hid (fun (S : List Nat) (hS : LeastR N T S) => stuck_plain (m := m) (by omega) HOK.out HMK.out (by omega) hlv hS)
    rw [hlv]
    clear hlvl hlv
    go_upto_region 13 with fail
    go_loopw [7, 8] (fun v i wr => ∃ (k : Nat) (A9 : Option Addr) (c9 : Nat), k ≤ m.length ∧ i = .int .i64 k ∧ v = .slice A9 (zeroK m k).length c9 ∧ OwnI wr w4.heap.size (.slice A9 (zeroK m k).length c9) (zeroK m k) ∧ Below w4.heap.size w4 wr) (fun _ i _ => m.length - (intOf i).toNat)
    case atStart => exact ⟨0, none, 0, by omega, rfl, rfl, OwnI.nil _ _, Below.refl _ _⟩
    case round =>
      obtain ⟨k, A9, c9, hk, rfl, rfl, ho, hB⟩ := hrel
      have HO := hid ho
      have HB := hid hB
      have BR := hid (B4.out.trans (hB.mono B4.out.size))
      clear ho hB
      by_cases hlt : k < m.length
      case pos =>
        have hlt' : (k : Int) < m.length := by omega
        have hsu := hid (zeroK_succ m k)
        have hlk := zeroK_len m k
        obtain ⟨bm, om, hA2, hbm, hcm, -⟩ := (HMt.out wr BR.out).int hlt
        have hgd := hid (show m.getD k 0 = m[k] by rw [List.getD_eq_getElem?_getD, List.getElem?_eq_getElem hlt]; rfl)
        rw [hgd.out] at hsu
        clear hgd
        subst hA2
        have hmN := HML.out
        have hk8 : k ≤ 8 := by omega
        clear hmN
        generalize zeroK m k = L at *
        generalize m[k] = x at *
        by_cases hx : x = 0
        · have hsu2 := hid (show zeroK m (k + 1) = L ++ [(k : Int)] by rw [hsu.out, if_pos hx])
          subst hx
          as_aux_lemma =>
            go_upto_region 16 with fail
            have hX := hid (Blk.new wr 3 #[.int .i64 (k : Nat)])
            have hcell := hX.out.cell 0
            simp only [List.getElem?_toArray, List.getElem?_cons_zero] at hcell
            have hcl := hid hcell
            have hbase := hid (HB.out.size)
            clear hcell
            go_wp2_with (at_builtin; refine wp_appK _ rfl (.tmp 59) (.tmp 61) rfl w4.heap.size (.slice A9 L.length c9) L rfl (HO.out.alloc _) _ 1 (k : Nat) rfl hcl.out (by omega) (by have := hbase.out; simp; omega) ?_; intro A8 c8 w9 ho9 hg9 hd9)
            have B9 := hid (show Below w4.heap.size w4 w9 from (HB.out.alloc HB.out.size _).grown hg9 (by have := hbase.out; simp; omega) (fun g hg => (HO.out.lt g hg).1))
            have HO9 := hid ho9
            clear ho9 hg9 hd9
            go_wp2_with fail
            go_roundw
            case rel => exact ⟨k + 1, A8, c8, by omega, by go_num, by rw [hsu2.out]; simp, by rw [hsu2.out]; simpa using HO9.out, B9.out⟩
            case measure => simp [intOf]; omega
        · have hsu2 := hid (show zeroK m (k + 1) = L by rw [hsu.out, if_neg hx])
          have hx2 : (x == 0) = false := by simp [hx]
          as_aux_lemma =>
            go_wp2_with fail
            go_roundw
            case rel => exact ⟨k + 1, A9, c9, by omega, by go_num, by rw [hsu2.out], by rw [hsu2.out]; exact HO.out, HB.out⟩
            case measure => simp [intOf]; omega
      case neg =>
      obtain rfl : k = m.length := by omega
      clear hk hlt
      rw [HML.out] at HO ⊢
      obtain ⟨A10, c10, e10, g1, g2, SB⟩ := HO.out.slr (zero_i64 m N (by omega))
      injection e10 with e10 _ e11
      have hzl := zeroK_len m N
      have HSZ := hid (fun (W : World) (hW : Below wr.heap.size wr W) => show SlR W W.heap.size A9 (zeroK m N) from by rw [e10]; exact (SB.below hW).more hW.size)
      clear e10 e11 g1 g2 SB HO
      obtain ⟨x0, x1, xz⟩ := HX.out wr BR.out
      have HSI := hid (siphons_any N A c T wr (by omega) (HT0.out _ BR.out) HOK.out (HE.out.below (HBF.out _ BR.out) HE.out.pos))
      have HIS := hid (fun (W : World) (hW : Below wr.heap.size wr W) => siphon_any (N : Int) A c T A9 c9 (zeroK m N) W hl2.out (HT0.out W (BR.out.trans (hW.mono BR.out.size))) (by unfold maxLen; omega) (HSZ.out W hW) HOK.out)
      go_wp2_with fail
      refine HSI.out.mono ?_
      rintro e w6 ⟨ws, A6, c6, hws, rfl, hsl, hB⟩
      have hLR := hid (leastR (T := T) (by omega) hws)
      have B6 := hid (show Below wr.heap.size wr w6 from hB)
      clear hB hws HSI x0 x1 xz
      generalize minF (edgesN ((N : Int), T) false) ws = S at *
      have hSR := hid (HPL.out S hLR.out)
      have HIS6 := hid (HIS.out w6 B6.out)
      rw [hSR.out.is] at HIS6
      have HSL := hid hsl
      have B26 := hid (BR.out.trans (B6.out.mono BR.out.size))
      clear hsl HIS HPL
      obtain ⟨x0, x1, xz⟩ := HX.out w6 B26.out
      generalize zeroK m N = Z at *
      have hS256 : S.length ≤ 256 := Nat.le_trans hLR.out.len (Nat.pow_le_pow_right (n := 2) (by omega) hN8)
      have hexS := hid hSR.out.ex
      clear hSR
      go_upto_region 21 with (go_at_call 12; refine HIS6.out.mono ?_; rintro e w7 ⟨rfl, hB⟩)
      have B7 := hid (B26.out.trans (hB.mono B26.out.size))
      have HSL7 := hid ((HSL.out.below hB).more hB.size)
      have HM7 := hid (HMt.out w7 B7.out)
      clear hB HIS6 HSL x0 x1 xz HSZ
      obtain ⟨wy, hwy⟩ : ∃ wy, wy = w7 := ⟨_, rfl⟩
      subst hwy
      go_loopw [11] (fun i wr => ∃ k : Nat, k ≤ S.length ∧ i = .int .i64 k ∧ (S.take k).any (fun f => emptyN m (listN f)) = false ∧ wy = wr) (fun i _ => S.length - (intOf i).toNat)
      case atStart => exact ⟨0, by omega, rfl, by simp, rfl⟩
      case round =>
        obtain ⟨i, hi, rfl, hno, rfl⟩ := hrel
        have HNO := hid hno
        clear hno
        by_cases hlti : i < S.length
        case neg =>
          exfalso
          obtain rfl : i = S.length := by omega
          have h1 := HNO.out
          rw [List.take_length, hexS.out] at h1
          cases h1
        have hlti' : (i : Int) < S.length := by omega
        obtain ⟨bl, ol, Al, cl, hA6, hbl, hcl, hle1, hle2, hsf⟩ := HSL7.out.list (k := i) (by rw [List.length_map]; exact hlti)
        rw [List.getElem_map] at hcl hle1 hsf
        subst hA6
        have hst := hid (show (S.take (i + 1)).any (fun f => emptyN m (listN f)) = emptyN m (listN S[i]) by rw [List.take_add_one, List.getElem?_eq_getElem hlti, List.any_append, HNO.out]; simp)
        have hfs := hid (list_set (hLR.out.lt _ (List.getElem_mem hlti)).1)
        have hfl := listN_len S[i]
        have HSF := hid hsf
        clear hsf hle1 hle2
        generalize listN S[i] = lf at *
        go_upto_region 25 with fail
        go_loopw [12, 13] (fun v j wr => ∃ k : Nat, k ≤ lf.length ∧ j = .int .i64 k ∧ v = .bool (emptyN m (lf.take k)) ∧ wy = wr) (fun _ j _ => lf.length - (intOf j).toNat)
        case atStart => exact ⟨0, by omega, rfl, by simp [emptyN], rfl⟩
        case round =>
          obtain ⟨k, hk, rfl, rfl, rfl⟩ := hrel
          by_cases hlt : k < lf.length
          case pos =>
            as_aux_lemma =>
              have hlt' : (k : Int) < lf.length := by omega
              have hsu := hid (emptyK_succ m lf k hlt)
              have hmem := setB_mem hfs.out _ (List.getElem_mem hlt)
              obtain ⟨q, hq⟩ : ∃ q : Nat, lf[k] = q := ⟨lf[k].toNat, by omega⟩
              obtain ⟨bs, os, hAS, hbs, hcs, -⟩ := HSF.out.int hlt
              rw [hq] at hcs hmem hsu
              have hqm : q < m.length := by have := HML.out; omega
              obtain ⟨bm, om, hBM, hbm, hcm, -⟩ := HM7.out.int hqm
              have hqN : (q : Int) < N := by omega
              have hqi : (q : Int) < m.length := by omega
              have hmin : min (q : Int) ((N : Int) - 1) = q := by omega
              have hmax : max 0 (q : Int) = q := by omega
              have hgd := hid (show m.getD (q : Int).toNat 0 = m[q] by rw [Int.toNat_natCast, List.getD_eq_getElem?_getD, List.getElem?_eq_getElem hqm]; rfl)
              rw [hgd.out] at hsu
              subst hAS hBM
              clear hq hmem hgd
              generalize m[q] = x at *
              generalize emptyN m (lf.take k) = b at *
              cases b with
              | false =>
                go_wp2_with fail
                go_roundw
                case rel => exact ⟨k + 1, by omega, by go_num, by rw [hsu.out]; simp, by first | rfl | trivial⟩
                case measure => simp [intOf]; omega
              | true =>
                go_wp2_with fail
                go_roundw
                case rel => exact ⟨k + 1, by omega, by go_num, by rw [hsu.out]; simp [Bool.beq_eq_decide_eq], by first | rfl | trivial⟩
                case measure => simp [intOf]; omega
          case neg =>
            obtain rfl : k = lf.length := by omega
            rw [List.take_length] at *
            clear hk hlt
            generalize emptyN m lf = b at *
            cases b with
            | true =>
              as_aux_lemma =>
                go_wp2_with fail
                go_ret
                exact ⟨rfl, HBF.out _ B7.out⟩
            | false =>
              as_aux_lemma =>
                go_wp2_with fail
                go_roundw
                case rel => exact ⟨i + 1, by omega, by go_num, hst.out, by first | rfl | trivial⟩
                case measure => simp [intOf]; omega
end Go.Proofs.YtbbogflibekgfaaDoor
