
/- Game: the reference's Answer, the walk. -/
import Derived.Test.YtiaplhdgchbkkaaGamRf
set_option linter.unusedSimpArgs false
set_option linter.unusedVariables false
namespace Go.Proofs.Ytiaplhdgchbkkaa
open Go.RowKit Go.IntWalk Go.Shelf

set_option maxRecDepth 100000 in
set_option maxHeartbeats 40000000 in
theorem ranswer_any (Ag Am A : Option Addr) (cg cm c : Nat) (g : Gm) (R : List Int) (pos act : Int) (w : World) (h : GmR w w.heap.size Ag Am g) (hg : GmOK g) (hl : R.length ≤ maxLen) (hR : SlR w w.heap.size A R) (hrl : R.length = g.2.length) :
    Calls Try.prog 15 #[.agg #[.slice Ag g.1.length cg, .slice Am g.2.length cm], .slice A R.length c, .int .i64 pos, .int .i64 act] w fun e w' =>
      e = .returned (.tuple #[.int .i64 (answerL g R pos act).1, .bool (answerL g R pos act).2]) ∧ Below w.heap.size w w' := by
  obtain ⟨w0, hw0⟩ : ∃ w0, w0 = (w.alloc (Obj.cells #[.slice Ag g.1.length cg, .slice Am g.2.length cm] 25)) := ⟨_, rfl⟩
  have hB0 := hid (show Below w.heap.size w w0 by rw [hw0]; (repeat (first | exact Below.refl _ _ | assumption | refine below_drewN ?_ _ | refine Below.drew ?_ | refine Below.alloc ?_ (by (try simp); (try omega)) _ | refine Below.setCell ?_ (by (try simp); (try omega)) _)))
  have X0 := hid (show Blk w0 w.heap.size 25 #[.slice Ag g.1.length cg, .slice Am g.2.length cm] by rw [hw0]; exact Blk.new _ _ _)
  have HW0 := hid hw0
  have H := hid h; have HG := hid hg; have HR := hid hR
  have x0 := X0.out.cell 0; have x1 := X0.out.cell 1; have xz := X0.out.lt
  simp at x0 x1
  have hlm : g.2.length ≤ 1000 := by have := hg.n; have := hg.s; omega
  have HRL := hid hrl
  have hRle : R.length ≤ 1000 := by omega
  have hrl' : (R.length : Int) = g.2.length := by omega
  clear hw0 h hg hR hrl
  by_cases hno : pos < 0 ∨ (g.2.length : Int) ≤ pos ∨ (g.2.getD pos.toNat []).find? (fun m => decide (m.1 = act)) = none
  · have hA := hid (show answerL g R pos act = (0, false) by
      unfold answerL
      by_cases hc : pos < 0 ∨ (g.2.length : Int) ≤ pos ∨ R.length ≠ g.2.length
      · rw [if_pos hc]
      · rw [if_neg hc]
        rcases hno with h | h | h
        · exact absurd (.inl h) hc
        · exact absurd (.inr (.inl h)) hc
        · rw [h])
    have HM := hid (move_no Ag Am cg cm g pos act w0 (H.out.to hB0.out) HG.out hno)
    clear hno
    go_enter Try.func15, Try.ntmps15
    go_upto_region 1 with fail
    rw [← HW0.out]
    go_wp2_with fail
    refine HM.out.mono ?_
    rintro e w2 ⟨rfl, hB2⟩
    have B3 := hid (hB0.out.trans ((hB2.alloc hB2.size (Obj.cells #[.int .i64 0, .slice none 0 0] 41)).mono hB0.out.size))
    clear hB2 HM x0 x1 xz
    go_wp2_with fail
    refine bodyPost_ret (v := .tuple #[.int .i64 0, .bool false]) (by simp [results, Try.results15, go_sem]) rfl ⟨by rw [hA.out], B3.out⟩
  have hp0 : ¬ pos < 0 := fun h => hno (.inl h)
  obtain ⟨p, rfl⟩ : ∃ p : Nat, pos = p := ⟨pos.toNat, by omega⟩
  have hp : p < g.2.length := Nat.lt_of_not_le (fun h => hno (.inr (.inl (by omega))))
  have hfs : (g.2.getD p []).find? (fun m => decide (m.1 = act)) ≠ none := fun h => hno (.inr (.inr (by simpa using h)))
  obtain ⟨m, hm⟩ := Option.ne_none_iff_exists'.1 hfs
  obtain ⟨k0, hk0, hke, hy, hn⟩ := find_first hm
  have hA := hid (show answerL g R p act = (worstL R (g.2.getD p [])[k0].2, true) by
    unfold answerL
    rw [if_neg (by have := HRL.out; omega)]
    simp only [Int.toNat_natCast, hm, hke])
  have hgk : g.2.getD p [] = g.2[p] := by rw [List.getD, List.getElem?_eq_getElem hp]; rfl
  have hmo := HG.out.m (g.2.getD p []) (by rw [hgk]; exact List.getElem_mem hp) _ (List.getElem_mem hk0)
  have hml := hmo.1
  have hgn := HG.out.n
  have hto := hid (show ∀ t ∈ (g.2.getD p [])[k0].2, 0 ≤ t ∧ t < R.length from fun t ht => by have := hmo.2.2.2 t ht; have := HRL.out; omega)
  have hpos9 : 0 < (g.2.getD p [])[k0].2.length := List.length_pos_iff.2 hmo.2.2.1
  have HM := hid (move_any Ag Am cg cm g p k0 act (g.2.getD p []) rfl w0 (H.out.to hB0.out) HG.out hp hk0 (by rw [hke]; simpa using hy) (fun j hj => by simpa using hn j hj))
  clear hno hp0 hfs hm hke hy hn hmo hgk hgn
  generalize (g.2.getD p [])[k0].2 = tos at *
  clear hk0
  go_enter Try.func15, Try.ntmps15
  go_upto_region 1 with fail
  rw [← HW0.out]
  go_wp2_with fail
  refine HM.out.mono ?_
  rintro e w2 ⟨A2, c2, rfl, hs2, hB2⟩
  have b3 : Below w0.heap.size w0 (w2.alloc (Obj.cells #[.int .i64 act, .slice A2 tos.length c2] 41)) := hB2.alloc hB2.size _
  have B3 := hid (hB0.out.trans (b3.mono hB0.out.size))
  have B30 := hid b3
  have X3 := hid (X0.out.below b3 X0.out.lt)
  have M3 := Blk.new w2 41 #[.int .i64 act, .slice A2 tos.length c2]
  clear HM hB2 b3 x0 x1 xz
  go_upto_region 2 with fail
  generalize w2.alloc _ = w3 at *
  generalize w2.heap.size = gm at *
  have m1 := M3.cell 1; have mz := M3.lt
  have x0 := X3.out.cell 0; have x1 := X3.out.cell 1; have xz := X3.out.lt
  simp at m1 x0 x1
  have HS2 := hid hs2
  have HT0 := hid (show worstL R tos = tos.foldl (wstep R) (tos[0]'hpos9) by cases tos with | nil => simp at hpos9 | cons a t => rfl)
  have hm0 := hid (List.getElem_mem hpos9)
  obtain ⟨t0, ht0⟩ : ∃ t0, tos[0]'hpos9 = t0 := ⟨_, rfl⟩
  have HT00 := hid ht0
  rw [ht0] at HT0 hm0
  clear hs2 M3 ht0
  go_wp2_with fail
  go_loopw [12, 13] (fun wv jv wr => ∃ (j : Nat) (wst : Int), j ≤ tos.length ∧ jv = .int .i64 j ∧ wv = .int .i64 wst ∧ Below w3.heap.size w3 wr ∧ (j = 0 ∧ wst = -1 ∨ 0 < j ∧ wst = (tos.take j).foldl (wstep R) t0 ∧ wst ∈ tos ∧ 0 ≤ R.getD wst.toNat 0)) (fun _ jv _ => tos.length - (intOf jv).toNat)
  case atStart => exact ⟨0, -1, by omega, rfl, rfl, Below.refl _ _, .inl ⟨rfl, rfl⟩⟩
  case round =>
    obtain ⟨j, wst, hj, rfl, rfl, hB, hcs⟩ := hrel
    have HB := hid hB
    have HBf := hid (B3.out.trans (hB.mono B3.out.size))
    have m1 := (cell_kept (p := ⟨gm, 1, none⟩) (hB.block gm mz)).trans m1
    have mz9 : gm < wr.heap.size := by have := hB.size; omega
    by_cases hlt : j < tos.length
    · have hlt' : (j : Int) < tos.length := by omega
      obtain ⟨b, off, rfl, hb, hc, _⟩ := HS2.out.int hlt
      replace hc := (bcell (B30.out.trans (hB.mono B30.out.size)) b _ hb).trans hc
      have hz : b < wr.heap.size := by have := B30.out.size; have := hB.size; omega
      have hmk := hid (List.getElem_mem hlt)
      have hsucc := hid (wf_succ (R := R) (a := t0) hlt)
      have hst0 := hid (show j = 0 → tos[j] = t0 from fun e => by subst e; exact HT00.out)
      have hall := hid (show ∀ a, (tos.take (j + 1)).foldl (wstep R) t0 = a → R.getD a.toNat 0 < 0 → worstL R tos = a from fun a ha hn => by
        rw [HT0.out, wf_all (j := j + 1), ha]
        exact fold_stay hn _)
      obtain ⟨hx0, hx1⟩ := hto.out _ (List.getElem_mem hlt)
      generalize tos[j] = x at *
      obtain ⟨xn, rfl⟩ : ∃ n : Nat, x = n := ⟨x.toNat, by omega⟩
      have hxn : xn < R.length := by omega
      have hxn' : (xn : Int) < R.length := by omega
      obtain ⟨b5, off5, hA5, hb5, hr1, _⟩ := HR.out.int hxn
      have hr1' := (bcell HBf.out b5 _ hb5).trans hr1
      have hz5 : b5 < wr.heap.size := by have := HBf.out.size; omega
      have hgx := hid (show R.getD (xn : Int).toNat 0 = R[xn] by simp [hxn])
      subst hA5
      have HRi := hid (fun (q : Nat) (hq : q < R.length) => (bcell HBf.out b5 _ hb5).trans (HR.out.int_at hq))
      clear hB hr1
      generalize hu : R[xn] = u at *
      by_cases hun : u < 0
      · have hfin := hid (show worstL R tos = xn from by
          rcases hcs with ⟨e0, _⟩ | ⟨_, e1, _, e3⟩
          · have ex := hst0.out e0
            refine hall.out xn ?_ (by rw [hgx.out]; exact hun)
            rw [hsucc.out, e0, ex]
            simp [wstep]
          · refine hall.out xn ?_ (by rw [hgx.out]; exact hun)
            rw [hsucc.out, ← e1]
            unfold wstep
            rw [if_pos ⟨e3, .inl (by rw [hgx.out]; exact hun)⟩])
        clear hcs hu
        as_aux_lemma =>
          go_wp2_with fail
          refine bodyPost_ret (v := .tuple #[.int .i64 (xn : Int), .bool true]) (by simp [results, Try.results15, go_sem]) rfl ⟨by rw [hA.out, hfin.out], HBf.out⟩
      rcases hcs with ⟨e0, e1⟩ | ⟨e0, e1, e2, e3⟩
      · have ex := hst0.out e0
        have hnx := hid (show (xn : Int) = (tos.take (j + 1)).foldl (wstep R) t0 by
          rw [hsucc.out, e0, ex]
          simp only [List.take_zero, List.foldl_nil, wstep]
          simp)
        have d1 : decide (u < u) = false := by simp
        have hux := hid (show 0 ≤ R.getD (xn : Int).toNat 0 by rw [hgx.out]; omega)
        subst e1
        clear e0 ex hu hst0
        as_aux_lemma =>
          go_wp2_with fail
          go_quiet (fail)
          go_wp2_with fail
          go_roundw
          case rel => exact ⟨j + 1, xn, by omega, by go_num, rfl, below_drewN HB.out _, .inr ⟨by omega, hnx.out, hmk.out, hux.out⟩⟩
          case measure => simp [intOf]; omega
      · obtain ⟨hw0, hw1⟩ := hto.out _ e2
        obtain ⟨wn, rfl⟩ : ∃ n : Nat, wst = n := ⟨wst.toNat, by omega⟩
        have hwn : wn < R.length := by omega
        have hwn' : (wn : Int) < R.length := by omega
        have hr2 := HRi.out wn hwn
        have hgw : R.getD (wn : Int).toNat 0 = R[wn] := by simp [hwn]
        have hstp := hid (show (tos.take (j + 1)).foldl (wstep R) t0 = if R[wn] < u then (xn : Int) else wn by
          rw [hsucc.out, ← e1]
          unfold wstep
          have e3' : 0 ≤ R[wn] := by rw [← hgw]; exact e3
          rw [hgx.out, hgw]
          by_cases hc : R[wn] < u
          · rw [if_pos ⟨e3', .inr hc⟩, if_pos hc]
          · rw [if_neg (fun h => h.2.elim hun hc), if_neg hc])
        have he3 := hid (show 0 ≤ R[wn] by rw [← hgw]; exact e3)
        have HE2 := hid e2
        have hgw9 := hid hgw
        obtain ⟨v, hv⟩ : ∃ v, R[wn] = v := ⟨_, rfl⟩
        rw [hv] at hr2 hstp he3 hgw9
        clear e0 e1 e2 e3 hw0 hu hst0 hgw hv HRi
        by_cases hvu : v < u
        · have d1 : decide (v < u) = true := by simpa using hvu
          have hst9 := hid (hstp.out.trans (if_pos hvu))
          have hux := hid (show 0 ≤ R.getD (xn : Int).toNat 0 by rw [hgx.out]; omega)
          as_aux_lemma =>
            go_wp2_with fail
            go_quiet (fail)
            go_wp2_with fail
            go_roundw
            case rel => exact ⟨j + 1, xn, by omega, by go_num, rfl, below_drewN HB.out _, .inr ⟨by omega, hst9.out.symm, hmk.out, hux.out⟩⟩
            case measure => simp [intOf]; omega
        · have d1 : decide (v < u) = false := by simpa using hvu
          have hst9 := hid (hstp.out.trans (if_neg hvu))
          have hux := hid (show 0 ≤ R.getD (wn : Int).toNat 0 by rw [hgw9.out]; exact he3.out)
          as_aux_lemma =>
            go_wp2_with fail
            go_quiet (fail)
            go_wp2_with fail
            go_roundw
            case rel => exact ⟨j + 1, wn, by omega, by go_num, rfl, below_drewN HB.out _, .inr ⟨by omega, hst9.out.symm, HE2.out, hux.out⟩⟩
            case measure => simp [intOf]; omega
    · obtain rfl : j = tos.length := by omega
      have hfin := hid (show worstL R tos = wst by
        rcases hcs with ⟨e0, _⟩ | ⟨_, e1, _, _⟩
        · omega
        · rw [HT0.out, e1, List.take_length])
      clear hcs hB
      as_aux_lemma =>
        go_wp2_with fail
        refine bodyPost_ret (v := .tuple #[.int .i64 wst, .bool true]) (by simp [results, Try.results15, go_sem]) rfl ⟨by rw [hA.out, hfin.out], HBf.out⟩
end Go.Proofs.Ytiaplhdgchbkkaa
