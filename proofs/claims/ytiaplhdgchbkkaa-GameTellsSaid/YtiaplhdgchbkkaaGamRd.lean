
/- Game: the reference's Ranks: the walk. -/
import Derived.Test.YtiaplhdgchbkkaaGamRc
set_option linter.unusedSimpArgs false
set_option linter.unusedVariables false
namespace Go.Proofs.Ytiaplhdgchbkkaa
open Go.RowKit Go.IntWalk Go.Shelf

def hasR (R : List Int) (r : Int) (i : Nat) : Bool := (List.range i).any (fun p => decide (R.getD p 0 = r))
theorem hasR_succ (R : List Int) (r : Int) (i : Nat) : hasR R r (i + 1) = (hasR R r i || decide (R.getD i 0 = r)) := by
  unfold hasR
  rw [List.range_succ, List.any_append]
  simp
theorem hasR_no {R : List Int} {r : Int} {i : Nat} (h : hasR R r i = false) : ∀ p, p < i → R.getD p 0 ≠ r := by
  intro p hp e
  unfold hasR at h
  rw [List.any_eq_false] at h
  exact h p (by simpa using hp) (by simpa using e)
def goalR (l : List Bool) : List Int := l.map (fun b => if b then 0 else -1)
theorem goalR_take (l : List Bool) (k : Nat) (hk : k < l.length) : goalR (l.take (k + 1)) = goalR (l.take k) ++ [if l[k] then 0 else -1] := by
  unfold goalR
  rw [List.take_add_one, List.getElem?_eq_getElem hk, List.map_append]; rfl
theorem mix_in {R : List Int} {r : Int} {i : Nat} (hb : ∀ x ∈ R, -1 ≤ x ∧ x ≤ 1000) : ∀ x ∈ mixR R r i, -1 ≤ x ∧ x ≤ 1000 := by
  have hc : ∀ r, ∀ x ∈ cutR R r, -1 ≤ x ∧ x ≤ 1000 := fun r x hx => by
    obtain ⟨y, hy, rfl⟩ := List.mem_map.1 hx
    have := hb y hy
    split <;> omega
  intro x hx
  rcases List.mem_append.1 hx with hx | hx
  · exact hc _ x (List.mem_of_mem_take hx)
  · exact hc _ x (List.mem_of_mem_drop hx)
theorem mix_same {R : List Int} {r : Int} {i : Nat} (hi : i < R.length) (hne : R.getD i 0 ≠ r) (h1 : -1 ≤ R.getD i 0) (hr : 1 ≤ r) : mixR R r (i + 1) = mixR R r i := by
  apply list_ext_getD
  · rw [mixR_len _ _ _ (by omega), mixR_len _ _ _ (by omega)]
  · intro q hq
    rw [mixR_len _ _ _ (by omega)] at hq
    rw [mixR_get _ _ _ _ (by omega) hq, mixR_get _ _ _ _ (by omega) hq]
    by_cases e : q = i
    · subst e
      rw [if_pos (show q < q + 1 by omega), if_neg (show ¬ q < q by omega)]
      split <;> split <;> omega
    · by_cases hq2 : q < i
      · rw [if_pos hq2, if_pos (show q < i + 1 by omega)]
      · rw [if_neg hq2, if_neg (show ¬ q < i + 1 by omega)]
set_option maxRecDepth 100000 in
set_option maxHeartbeats 40000000 in
theorem rranks_any (Ag Am : Option Addr) (cg cm : Nat) (g : Gm) (w : World) (h : GmR w w.heap.size Ag Am g) (hg : GmOK g) :
    Calls Try.prog 13 #[.agg #[.slice Ag g.1.length cg, .slice Am g.2.length cm]] w fun e w' => ∃ v, e = .returned v ∧ OwnI w' w.heap.size v (rankL g) ∧ Below w.heap.size w w' := by
  have HG := hid hg
  have H := hid h
  have hn := hid hg.n
  have hs := hg.s
  have hlm : g.2.length ≤ 1000 := by have := hg.n; omega
  obtain ⟨w0, hw0⟩ : ∃ w0, w0 = (w.alloc (Obj.cells #[.slice Ag g.1.length cg, .slice Am g.2.length cm] 25)) := ⟨_, rfl⟩
  have hB0 := hid (show Below w.heap.size w w0 by rw [hw0]; (repeat (first | exact Below.refl _ _ | assumption | refine below_drewN ?_ _ | refine Below.drew ?_ | refine Below.alloc ?_ (by (try simp); (try omega)) _ | refine Below.setCell ?_ (by (try simp); (try omega)) _)))
  have X0 := hid (show Blk w0 w.heap.size 25 #[.slice Ag g.1.length cg, .slice Am g.2.length cm] by rw [hw0]; exact Blk.new _ _ _)
  have HW0 := hid hw0
  have hrk := hid (rankL_rk hg)
  have hrb := hid (show ∀ x ∈ rankL g, -1 ≤ x ∧ x ≤ 1000 from fun x hx => by
    obtain ⟨q, hq, rfl⟩ := List.getElem_of_mem hx
    have hrn := hrk.out.len
    have h1 := hrk.out.lo q (by omega)
    have h2 := rank_le hg q
    have h4 : (rankL g).getD q 0 = (rankL g)[q] := by simp [List.getD, hq]
    rw [h4] at h1 h2
    omega)
  have hle := hid (fun q => rank_le hg q)
  have hst0 := hid (show goalR g.1 = cutR (rankL g) 0 from (cut_start hrk.out).symm)
  have hrl := hid hrk.out.len
  have hhere := hid (fun (p : Nat) (hp : p < g.1.length) (r : Int) (hr : 1 ≤ r) hn => rank_here hg hrk.out hp hr hn)
  have hdone := hid (fun (r : Int) (hr : 1 ≤ r) hno => cut_done hg hrk.out (r := r) hr hno)
  clear hw0 h hg
  generalize rankL g = R at *
  go_enter Try.func13, Try.ntmps13
  go_upto_region 1 with fail
  rw [← HW0.out]
  have x0 := X0.out.cell 0; have x1 := X0.out.cell 1; have xz := X0.out.lt
  simp at x0 x1
  go_wp2_with fail
  go_loopw [3, 4] (fun sv iv wr => ∃ (k : Nat) (v : Value), k ≤ g.1.length ∧ iv = .int .i64 k ∧ v = sv ∧ OwnI wr w0.heap.size v (goalR (g.1.take k)) ∧ Below w0.heap.size w0 wr) (fun _ iv _ => g.1.length - (intOf iv).toNat)
  case atStart => exact ⟨0, .slice none 0 0, by omega, rfl, rfl, by simpa [goalR] using OwnI.nil _ _, Below.refl _ _⟩
  case round =>
    clear x0 x1 xz
    obtain ⟨k, v, hk, rfl, rfl, hown, hB⟩ := hrel
    have HO := hid hown
    have HB := hid hB
    have X2 := hid (X0.out.below hB X0.out.lt)
    have x0 := X2.out.cell 0; have x1 := X2.out.cell 1; have xz := X2.out.lt
    simp at x0 x1
    by_cases hlt : k < g.1.length
    · have hlt' : (k : Int) < g.1.length := by omega
      obtain ⟨bG, oG, hAG, hbG, hcG⟩ := H.out.goal.bool hlt
      have hB9 := hB0.out.trans (hB.mono hB0.out.size)
      replace hcG := (bcell hB9 bG _ hbG).trans hcG
      have hzG : bG < wr.heap.size := by have := hB9.size; omega
      subst hAG
      have hst := hid (goalR_take g.1 k hlt)
      obtain ⟨n0, hn0⟩ : ∃ n0, (goalR (g.1.take k)).length = n0 := ⟨_, rfl⟩
      have hn9 := hid hn0
      have hl0 := hid (show (goalR (g.1.take k)).length ≤ 10000000 by simp [goalR]; omega)
      have HBz := HB.out.size
      clear hown hB hB9 hn0
      generalize g.1[k] = b at *
      cases b with
      | true =>
        have HO2 := hid (HO.out.alloc (Obj.cells #[.int .i64 0] 3))
        have hnw := hid ((Blk.new wr 3 #[.int .i64 0]).cell 0)
        as_aux_lemma =>
          go_wp2_with (at_builtin; refine wp_appJ _ rfl (.tmp 21) (.tmp 22) rfl w0.heap.size v _ n0 hn9.out rfl HO2.out wr.heap.size 1 0 rfl hnw.out hl0.out (by simp; omega) ?_; intro g3 c3 w3 ho3 hg3 _; have HO3 := hid ho3; have HB3 := hid ((HB.out.alloc HB.out.size (Obj.cells #[.int .i64 0] 3)).grown hg3 (by simp; omega) (fun q e => (HO2.out.lt q e).1)); clear ho3 hg3)
          go_roundw
          case rel => exact ⟨k + 1, _, by omega, by go_num, rfl, by rw [hst.out]; exact HO3.out, HB3.out⟩
          case measure => simp [intOf]; omega
      | false =>
        have HO2 := hid (HO.out.alloc (Obj.cells #[.int .i64 (-1)] 3))
        have hnw := hid ((Blk.new wr 3 #[.int .i64 (-1)]).cell 0)
        as_aux_lemma =>
          go_wp2_with (at_builtin; refine wp_appJ _ rfl (.tmp 24) (.tmp 25) rfl w0.heap.size v _ n0 hn9.out rfl HO2.out wr.heap.size 1 (-1) rfl hnw.out hl0.out (by simp; omega) ?_; intro g3 c3 w3 ho3 hg3 _; have HO3 := hid ho3; have HB3 := hid ((HB.out.alloc HB.out.size (Obj.cells #[.int .i64 (-1)] 3)).grown hg3 (by simp; omega) (fun q e => (HO2.out.lt q e).1)); clear ho3 hg3)
          go_roundw
          case rel => exact ⟨k + 1, _, by omega, by go_num, rfl, by rw [hst.out]; exact HO3.out, HB3.out⟩
          case measure => simp [intOf]; omega
    · obtain rfl : k = g.1.length := by omega
      rw [List.take_length, hst0.out] at hown
      obtain ⟨A, cA, hv, hA⟩ := hown.form
      have hlen0 : (cutR R 0).length = g.1.length := by rw [cutR_len, hrl.out]
      rw [hlen0] at hv
      subst hv
      have HO1 := hid hown
      clear HO hown hB hA hlen0
      go_wp2_with fail
      go_loopw [5] (fun rv wq => ∃ r : Nat, 1 ≤ r ∧ r ≤ g.1.length + 1 ∧ rv = .int .i64 r ∧ OwnI wq w0.heap.size (.slice A g.1.length cA) (cutR R ((r : Int) - 1)) ∧ Below w0.heap.size w0 wq) (fun rv _ => g.1.length + 1 - (intOf rv).toNat)
      case atStart => exact ⟨1, by omega, by omega, rfl, by simpa using HO1.out, HB.out⟩
      case round =>
        clear x0 x1 xz HO1 HB X2
        obtain ⟨r, hr1, hr2, rfl, hown, hB⟩ := hrel
        have HO := hid hown
        have HB := hid hB
        have X2 := hid (X0.out.below hB X0.out.lt)
        have x0 := X2.out.cell 0; have x1 := X2.out.cell 1; have xz := X2.out.lt
        simp at x0 x1
        by_cases hle9 : r ≤ g.1.length
        case neg =>
          have hall := hid (show cutR R ((r : Int) - 1) = R from cut_all (fun q hq => by have := hle.out q; omega))
          have hle8 : ¬ (r : Int) ≤ g.1.length := by omega
          have hBf := hid (hB0.out.trans (hB.mono hB0.out.size))
          clear hown hB
          as_aux_lemma =>
            go_wp2_with fail
            go_ret
            exact ⟨_, rfl, by have h5 := HO.out; rw [hall.out] at h5; exact OwnI.mono h5 hB0.out.size, hBf.out⟩
        have hle8 : (r : Int) ≤ g.1.length := by omega
        have hgA : ∃ gA, A = some ⟨gA, 0, none⟩ := by
          obtain ⟨A', c', hv, hA⟩ := hown.form
          obtain ⟨gA, rfl, _⟩ := hA (by intro e; have := cutR_len R ((r : Int) - 1); rw [e, hrl.out] at this; simp at this; omega)
          simp only [Value.slice.injEq] at hv
          exact ⟨gA, hv.1⟩
        obtain ⟨gA, rfl⟩ := hgA
        have hsz : r ≤ 1000 := by omega
        have hw1 : IntKind.i64.wrap ((r : Int) - 1) = (r : Int) - 1 := IntWalk.i64_in _ (by omega)
        clear hown hB
        go_wp2_with fail
        go_loopw [6, 7] (fun mv iv wq => ∃ i : Nat, i ≤ g.1.length ∧ iv = .int .i64 i ∧ mv = .bool (hasR R r i) ∧ OwnI wq w0.heap.size (.slice (some ⟨gA, 0, none⟩) g.1.length cA) (mixR R r i) ∧ Below w0.heap.size w0 wq) (fun _ iv _ => g.1.length - (intOf iv).toNat)
        case atStart => exact ⟨0, by omega, rfl, by simp [hasR], by rw [mixR_zero]; exact HO.out, HB.out⟩
        case round =>
          clear x0 x1 xz HO HB X2
          obtain ⟨i, hi, rfl, rfl, hown, hB⟩ := hrel
          have HO := hid hown
          have HB := hid hB
          have X2 := hid (X0.out.below hB X0.out.lt)
          have x0 := X2.out.cell 0; have x1 := X2.out.cell 1; have xz := X2.out.lt
          simp at x0 x1
          by_cases hlt : i < g.1.length
          · have him : i < g.2.length := by have := hn.out; omega
            have him' : (i : Int) < g.2.length := by omega
            have hig' : (i : Int) < g.1.length := by omega
            have hiR : i < R.length := by have := hrl.out; omega
            have hL := H.out.mvs.list him
            have hLm := hid (HG.out.m _ (List.getElem_mem him))
            have hLl := HG.out.l _ (List.getElem_mem him)
            have hgm := hid (show g.2.getD i [] = g.2[i] by rw [List.getD, List.getElem?_eq_getElem him]; rfl)
            have hhr := hid (fun hn => hhere.out i hlt (r : Int) (by omega) hn)
            have hlo := hid (show -1 ≤ R.getD i 0 from hrk.out.lo i hlt)
            generalize g.2[i] = l at *
            obtain ⟨bM, oM, A', c', rfl, hbM, hcM, h5, h6, hsM⟩ := hL
            have HCM := hid hcM
            have HSM := hid hsM
            have hll : l.length ≤ 1000 := hLl
            clear hown hB hcM h5 h6 hsM hLl
            go_wp2_with fail
            go_loopw [6, 8] (fun mv jv wq => ∃ (k : Nat) (dn : Bool), k ≤ l.length ∧ jv = .int .i64 k ∧ mv = .bool (hasR R r i || dn) ∧ OwnI wq w0.heap.size (.slice (some ⟨gA, 0, none⟩) g.1.length cA) (if dn then (mixR R r i).set i r else mixR R r i) ∧ Below w0.heap.size w0 wq ∧ (dn = true → R.getD i 0 = r) ∧ (dn = false → ∀ j (hj : j < l.length), j < k → withinL R l[j].2 ((r : Int) - 1) = false)) (fun _ jv _ => l.length - (intOf jv).toNat)
            case atStart => exact ⟨0, false, by omega, rfl, by simp, by simpa using HO.out, HB.out, fun h => (by cases h), fun _ j _ h => by omega⟩
            case round =>
              clear x0 x1 xz HO HB X2
              obtain ⟨k, dn, hk, rfl, rfl, hown, hB, hd1, hd2⟩ := hrel
              have HO := hid hown
              have HB := hid hB
              have X2 := hid (X0.out.below hB X0.out.lt)
              have x0 := X2.out.cell 0; have x1 := X2.out.cell 1; have xz := X2.out.lt
              simp at x0 x1
              have hB9 := hB0.out.trans (hB.mono hB0.out.size)
              have hcM := (bcell hB9 bM _ hbM).trans HCM.out
              have hzM : bM < wr.heap.size := by have := hB9.size; omega
              have HB9 := hid hB9
              have hmn := hid (show ∀ r9 : Nat, r9 = r + 1 → True from fun _ _ => trivial)
              have hmlen : (mixR R r i).length = g.1.length := by rw [mixR_len _ _ _ (by omega), hrl.out]
              cases dn with
              | true =>
                have hri := hd1 rfl
                simp only [if_true] at hown
                have hc9 := hown.at_ (k := i) (by rw [List.length_set]; omega)
                rw [List.getElem_set_self] at hc9
                have hzA : gA < wr.heap.size := (hown.lt gA rfl).2
                have hnr : ¬ (r : Int) < 0 := by omega
                have hfin := hid (show (mixR R r i).set i (r : Int) = mixR R r (i + 1) by rw [mixR_step hiR, hri, if_pos (Int.le_refl _)])
                have hmo := hid (show hasR R r (i + 1) = true by rw [hasR_succ, hri]; simp)
                have HO3 := hid hown
                clear hown hB hB9 hd1 hd2 HO hmlen
                as_aux_lemma =>
                  go_wp2_with fail
                  all_goals
                    go_roundw
                    case rel => exact ⟨i + 1, by omega, by go_num, by rw [hmo.out], by rw [← hfin.out]; exact HO3.out, HB.out⟩
                    case measure => simp [intOf]; omega
              | false =>
                simp only [Bool.false_eq_true, if_false] at hown
                have hnd := hid (hd2 rfl)
                have hc9 := hown.at_ (k := i) (by omega)
                have hgetx : (mixR R r i)[i]'(by omega) = if R.getD i 0 ≤ (r : Int) - 1 then R.getD i 0 else -1 := by
                  have h7 := mixR_get R r i i (by omega) hiR
                  rw [if_neg (Nat.lt_irrefl i)] at h7
                  rw [← h7, List.getD, List.getElem?_eq_getElem (by omega)]; rfl
                rw [hgetx] at hc9
                have hzA : gA < wr.heap.size := (hown.lt gA rfl).2
                have hbA : w0.heap.size ≤ gA := (hown.lt gA rfl).1
                have HO3 := hid hown
                obtain ⟨y, hy⟩ : ∃ y, (if R.getD i 0 ≤ (r : Int) - 1 then R.getD i 0 else -1) = y := ⟨_, rfl⟩
                rw [hy] at hc9
                have HY := hid hy
                simp only [Bool.or_false]
                clear hown hB hd1 hd2 HO hgetx hy
                by_cases hy0 : y < 0
                case neg =>
                  have hne : R.getD i 0 ≠ r := by have := HY.out; split at this <;> omega
                  have hfin := hid (mix_same hiR hne hlo.out (by omega))
                  have hmo := hid (show hasR R r (i + 1) = hasR R r i by rw [hasR_succ, decide_eq_false hne, Bool.or_false])
                  clear hB9 hmlen
                  as_aux_lemma =>
                    go_wp2_with fail
                    all_goals
                      go_roundw
                      case rel => exact ⟨i + 1, by omega, by go_num, by rw [hmo.out], by rw [hfin.out]; exact HO3.out, HB.out⟩
                      case measure => simp [intOf]; omega
                have hnr : R.getD i 0 < 0 ∨ (r : Int) - 1 < R.getD i 0 := by have := HY.out; split at this <;> omega
                by_cases hkl : k < l.length
                · have hkl' : (k : Int) < l.length := by omega
                  obtain ⟨_, _, _, hto⟩ := hLm.out _ (List.getElem_mem hkl)
                  obtain ⟨b2, o2, A2, c2, rfl, hb2, m0, m1, h7, h8, hs2, _⟩ := HSM.out.mv hkl
                  replace m0 := (bcell hB9 b2 _ hb2).trans m0
                  replace m1 := (bcell hB9 b2 _ hb2).trans m1
                  have hz2 : b2 < wr.heap.size := by have := hB9.size; omega
                  obtain ⟨A9, c9, hv9, _, _, hsl9⟩ := HO3.out.slr (fun x hx => by have := mix_in hrb.out x hx; unfold I64; omega)
                  have hto' : ∀ t ∈ l[k].2, 0 ≤ t ∧ t < R.length := fun t ht => by have := hto t ht; have := hrl.out; omega
                  rw [hmlen] at hv9
                  simp only [Value.slice.injEq] at hv9
                  obtain ⟨rfl, -, rfl⟩ := hv9
                  have HM := hid (show Calls Try.prog 29 #[.slice (some ⟨gA, 0, none⟩) g.1.length cA, .agg #[.int .i64 l[k].1, .slice A2 l[k].2.length c2], .int .i64 ((r : Int) - 1)] wr fun e w' => e = .returned (.bool (withinL R l[k].2 ((r : Int) - 1))) ∧ Below wr.heap.size wr w' by
                    have h := within_any (some ⟨gA, 0, none⟩) A2 cA c2 (mixR R r i) l[k].1 l[k].2 ((r : Int) - 1) wr (by rw [hmlen]; unfold maxLen; omega) (Nat.le_trans h7 h8) hsl9 ((hs2.below hB9).more hB9.size) (fun t ht => by rw [hmlen, ← hrl.out]; exact hto' t ht)
                    rw [within_mix (by omega) hto' (by omega), hmlen] at h
                    exact h)
                  have hyes := hid (fun (hw : withinL R l[k].2 ((r : Int) - 1) = true) => (hhr.out hnr).1 ⟨l[k], by rw [hgm.out]; exact List.getElem_mem hkl, hw⟩)
                  have hno := hid (fun (hw : withinL R l[k].2 ((r : Int) - 1) = false) => show ∀ j (hj : j < l.length), j < k + 1 → withinL R l[j].2 ((r : Int) - 1) = false from fun j hj hjk => by
                    by_cases e : j = k
                    · subst e; exact hw
                    · exact hnd.out j hj (by omega))
                  have HS9 := hid (HO3.out.set_ (k := i) (by omega) (r : Int))
                  clear hsl9 hs2 h7 h8 hto' hto hB9 hmlen
                  generalize l[k] = m at *
                  obtain ⟨act, tos⟩ := m
                  simp only at m0 m1 HM hyes hno
                  cases hwi : withinL R tos ((r : Int) - 1) with
                  | true =>
                    rw [hwi] at HM
                    have hri := hid (hyes.out hwi)
                    clear hwi hyes hno
                    as_aux_lemma =>
                      go_wp2_with fail
                      refine HM.out.mono ?_
                      rintro e w9 ⟨rfl, hB8⟩
                      have HO4 := hid (HO3.out.below hB8)
                      have hc8 := HO4.out.at_ (k := i) (by rw [mixR_len _ _ _ (by omega)]; exact hiR)
                      have hf8 := HO4.out.fz i
                      have hzA8 : gA < w9.heap.size := by have := hB8.size; omega
                      have HS8 := hid (HO4.out.set_ (k := i) (by rw [mixR_len _ _ _ (by omega)]; exact hiR) (r : Int))
                      have HB8 := hid ((HB.out.trans (hB8.mono HB.out.size)).setCell (p := ⟨gA, i, none⟩) hbA (.int .i64 (r : Int)))
                      clear hB8 HM
                      go_wp2_with fail
                      go_roundw
                      case rel => exact ⟨k + 1, true, by omega, by go_num, by simp, by simpa using HS8.out, HB8.out, fun _ => hri.out, fun h => by cases h⟩
                      case measure => simp [intOf]; omega
                  | false =>
                    rw [hwi] at HM
                    have hno9 := hid (hno.out hwi)
                    clear hwi hyes hno
                    as_aux_lemma =>
                      go_wp2_with fail
                      refine HM.out.mono ?_
                      rintro e w9 ⟨rfl, hB8⟩
                      have HO4 := hid (HO3.out.below hB8)
                      have HB8 := hid (HB.out.trans (hB8.mono HB.out.size))
                      clear hB8 HM
                      go_wp2_with fail
                      go_roundw
                      case rel => exact ⟨k + 1, false, by omega, by go_num, by simp, by simpa using HO4.out, HB8.out, fun h => (by cases h), fun _ => hno9.out⟩
                      case measure => simp [intOf]; omega
                · obtain rfl : k = l.length := by omega
                  have hne : R.getD i 0 ≠ r := fun e => by
                    obtain ⟨m, hm, hw⟩ := (hhr.out hnr).2 e
                    rw [hgm.out] at hm
                    obtain ⟨j, hj, rfl⟩ := List.getElem_of_mem hm
                    rw [hnd.out j hj hj] at hw
                    cases hw
                  have hfin := hid (mix_same hiR hne hlo.out (by omega))
                  have hmo := hid (show hasR R r (i + 1) = hasR R r i by rw [hasR_succ, decide_eq_false hne, Bool.or_false])
                  clear hB9 hmlen
                  as_aux_lemma =>
                    go_wp2_with fail
                    all_goals
                      go_roundw
                      case rel => exact ⟨i + 1, by omega, by go_num, by rw [hmo.out], by rw [hfin.out]; exact HO3.out, HB.out⟩
                      case measure => simp [intOf]; omega
          · obtain rfl : i = g.1.length := by omega
            have hmlen9 := hn.out
            have hge : ¬ (g.1.length : Int) < g.2.length := by omega
            have hme : mixR R r g.1.length = cutR R r := by rw [← hrl.out]; exact mixR_end R r
            rw [hme] at hown
            have HO3 := hid hown
            have hBf := hid (hB0.out.trans (hB.mono hB0.out.size))
            have HNo := hid (show hasR R r g.1.length = false → cutR R r = R from fun hf => hdone.out r (by omega) (hasR_no hf))
            have hlmn : g.2.length = g.1.length := hmlen9.symm
            have HO := hid hown
            clear hown hB hme hmlen9 hlmn
            cases hm : hasR R r g.1.length with
            | true =>
              as_aux_lemma =>
                go_wp2_with fail
                go_roundw
                case rel => exact ⟨r + 1, by omega, by omega, by go_num, by have h5 := HO3.out; rw [show ((r + 1 : Nat) : Int) - 1 = r by omega]; exact h5, HB.out⟩
                case measure => simp [intOf]; omega
            | false =>
              have hR9 := hid (HNo.out hm)
              as_aux_lemma =>
                go_wp2_with fail
                go_ret
                exact ⟨_, rfl, by have h5 := HO3.out; rw [hR9.out] at h5; exact OwnI.mono h5 hB0.out.size, hBf.out⟩
end Go.Proofs.Ytiaplhdgchbkkaa
