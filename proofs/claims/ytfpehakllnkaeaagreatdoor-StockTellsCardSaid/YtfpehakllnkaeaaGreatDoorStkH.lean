
/- Stock: cmp.Compare; Go's insertion sort with a comparing closure, on a row of ints of the call's own. -/
import Derived.Test.YtfpehakllnkaeaaGreatDoorStkG
set_option linter.unusedSimpArgs false
set_option linter.unusedVariables false
namespace Go.Proofs.YtfpehakllnkaeaaGreatDoor
open Go.RowKit Go.IntWalk

def cmpI (x y : Int) : Int := if x < y then -1 else if y < x then 1 else 0
theorem cmpI_neg {x y : Int} : cmpI x y < 0 ↔ x < y := by unfold cmpI; split <;> (try split) <;> omega
set_option maxRecDepth 100000 in
theorem isNaN_any (x : Int) (w : World) : Calls Tryz.prog 83 #[.int .i64 x] w fun e w' => e = .returned (.bool false) ∧ Below w.heap.size w w' := by
  go_enter Tryz.func83, Tryz.ntmps83
  go_wp2_with fail
  go_ret
  exact ⟨rfl, Below.refl _ _⟩
set_option maxRecDepth 100000 in
theorem compare_any (x y : Int) (w : World) : Calls Tryz.prog 55 #[.int .i64 x, .int .i64 y] w fun e w' => e = .returned (.int .i64 (cmpI x y)) ∧ Below w.heap.size w w' := by
  have HN := hid isNaN_any
  go_enter Tryz.func55, Tryz.ntmps55
  go_wp2_with fail
  refine (HN.out _ _).mono ?_
  rintro e w2 ⟨rfl, hB2⟩
  have B2 := hid hB2
  clear hB2
  go_wp2_with fail
  refine (HN.out _ _).mono ?_
  rintro e w3 ⟨rfl, hB3⟩
  have B3 := hid (B2.out.trans (hB3.mono B2.out.size))
  clear hB3 B2
  by_cases h1 : x < y
  · have hc := hid (show cmpI x y = -1 by simp [cmpI, h1])
    as_aux_lemma =>
      go_wp2_with fail
      go_ret
      exact ⟨ret_int hc.out.symm, B3.out⟩
  · by_cases h2 : y < x
    · have hc := hid (show cmpI x y = 1 by simp [cmpI, h1, h2])
      as_aux_lemma =>
        go_wp2_with fail
        go_ret
        exact ⟨ret_int hc.out.symm, B3.out⟩
    · have hc := hid (show cmpI x y = 0 by simp [cmpI, h1, h2])
      as_aux_lemma =>
        go_wp2_with fail
        go_ret
        exact ⟨ret_int hc.out.symm, B3.out⟩
/-! ### The row while it is being sorted -/
def toI (l : List Nat) : List Int := l.map (fun (x : Nat) => (x : Int))
theorem toI_len (l : List Nat) : (toI l).length = l.length := by simp [toI]
theorem toI_at {l : List Nat} {k : Nat} (h : k < l.length) : (toI l)[k]'(by rw [toI_len]; exact h) = (l[k] : Int) := by simp [toI]
theorem toI_set (l : List Nat) (k x : Nat) : (toI l).set k (x : Int) = toI (l.set k x) := by simp [toI, List.map_set]
/-- x has come down to j. -/
def arrJ (S : List Nat) (x : Nat) (rest : List Nat) (j : Nat) : List Nat := S.take j ++ x :: (S.drop j ++ rest)
theorem arrJ_len {S rest : List Nat} {x j : Nat} : (arrJ S x rest j).length = S.length + 1 + rest.length := by simp [arrJ]; omega
theorem arrJ_at {S rest : List Nat} {x j : Nat} (h : j ≤ S.length) : (arrJ S x rest j)[j]? = some x := by
  unfold arrJ
  rw [List.getElem?_append_right (by simp; omega)]
  have : j - (S.take j).length = 0 := by simp; omega
  rw [this]
  rfl
theorem arrJ_pred {S rest : List Nat} {x j : Nat} (h : j < S.length) : (arrJ S x rest (j + 1))[j]? = some S[j] := by
  unfold arrJ
  rw [List.getElem?_append_left (by simp; omega), List.getElem?_take_of_lt (by omega), List.getElem?_eq_getElem h]
theorem arrJ_swap {S rest : List Nat} {x j : Nat} (h : j < S.length) : ((arrJ S x rest (j + 1)).set (j + 1) S[j]).set j x = arrJ S x rest j := by
  have e1 : S.take (j + 1) = S.take j ++ [S[j]] := by rw [List.take_add_one, List.getElem?_eq_getElem h]; rfl
  have e2 : S.drop j = S[j] :: S.drop (j + 1) := List.drop_eq_getElem_cons h
  have hl : (S.take j).length = j := by simp; omega
  unfold arrJ
  rw [e1, e2, List.append_assoc]
  rw [List.set_append_right _ _ (by omega), show j + 1 - (S.take j).length = 1 by omega]
  rw [List.set_append_right _ _ (by omega), show j - (S.take j).length = 0 by omega]
  rfl
theorem arrJ_top {S l : List Nat} {i : Nat} (hS : S.length = i) (h : i < l.length) : S ++ l.drop i = arrJ S l[i] (l.drop (i + 1)) i := by
  unfold arrJ
  rw [List.take_of_length_le (by omega), List.drop_of_length_le (l := S) (by omega), List.nil_append, List.drop_eq_getElem_cons h]
set_option maxRecDepth 100000 in
set_option maxHeartbeats 4000000 in
theorem insort_any (gf : Nat) (lb : Array Value) (eg : ∀ args w, (callFunc gf args).run Tryz.prog w = .ok (.enter gf args) w) (key : Nat → Int) (base g cap : Nat) (l : List Nat) (w : World) (hl : l.length ≤ 1000) (hO : OwnI w base (.slice (some ⟨g, 0, none⟩) l.length cap) (toI l))
    (hp : ∀ (W : World) (x y : Nat), w.grownBy W (some g) → x ∈ l → y ∈ l → Calls Tryz.prog gf (#[.int .i64 x, .int .i64 y] ++ lb) W fun e w' => e = .returned (.int .i64 (cmpI (key x) (key y))) ∧ Below W.heap.size W w') :
    Calls Tryz.prog 94 #[.slice (some ⟨g, 0, none⟩) l.length cap, .int .i64 0, .int .i64 l.length, .func (.func gf) #[] lb] w fun e w' => e = .returned (.tuple #[]) ∧ OwnI w' base (.slice (some ⟨g, 0, none⟩) l.length cap) (toI (isort key l)) ∧ w.grownBy w' (some g) := by
  have HP := hid hp
  have HO := hid hO
  have HEG := hid eg
  clear hp hO
  go_enter Tryz.func94, Tryz.ntmps94
  go_wp2_with fail
  go_loopw [8] (fun iv wr => ∃ i : Nat, 1 ≤ i ∧ i ≤ l.length + 1 ∧ iv = .int .i64 i ∧ OwnI wr base (.slice (some ⟨g, 0, none⟩) l.length cap) (toI (isort key (l.take i) ++ l.drop i)) ∧ w.grownBy wr (some g)) (fun iv _ => l.length + 1 - (intOf iv).toNat)
  case atStart =>
    refine ⟨1, by omega, by omega, rfl, ?_, World.grownBy.refl _ _⟩
    have e : isort key (l.take 1) ++ l.drop 1 = l := by cases l <;> rfl
    rw [e]
    exact HO.out
  case round =>
    obtain ⟨i, hi1, hi2, rfl, hOi, hg⟩ := hrel
    have HOi := hid hOi
    have HG := hid hg
    clear hOi hg
    by_cases hlt : i < l.length
    case neg =>
      have e : isort key (l.take i) ++ l.drop i = isort key l := by rw [List.take_of_length_le (by omega), List.drop_of_length_le (by omega), List.append_nil]
      rw [e] at HOi
      have hge : ¬ (i : Int) < l.length := by omega
      clear hlt
      as_aux_lemma =>
        go_wp2_with fail
        go_end0
        exact ⟨rfl, HOi.out, HG.out⟩
    have hltI : (i : Int) < l.length := by omega
    have hS := hid (isort_srt key (l.take i))
    have hSp := hid (isort_perm key (l.take i))
    have hSl : (isort key (l.take i)).length = i := by rw [hSp.out.length_eq]; simp; omega
    have hnext := hid (show isort key (l.take (i + 1)) = insS key l[i] (isort key (l.take i)) by
      have : l.take (i + 1) = l.take i ++ [l[i]] := by rw [List.take_add_one, List.getElem?_eq_getElem hlt]; rfl
      rw [this, isort_snoc])
    have hdr := hid (arrJ_top hSl hlt)
    have hxm := hid (List.getElem_mem hlt)
    have hym := hid (show ∀ y ∈ isort key (l.take i), y ∈ l from fun y hy => List.mem_of_mem_take (hSp.out.mem_iff.1 hy))
    rw [hdr.out] at HOi
    have HSL := hid hSl
    clear hdr hSp
    generalize l[i] = x at *
    generalize isort key (l.take i) = S at *
    generalize hrest : l.drop (i + 1) = rest at *
    have hrl := hid (show S.length + 1 + rest.length = l.length by rw [← hrest, hSl]; simp; omega)
    have hre := hid hrest
    clear hSl hrest
    go_wp2_with fail
    go_loopw [9] (fun jv wr => ∃ j : Nat, j ≤ i ∧ jv = .int .i64 j ∧ OwnI wr base (.slice (some ⟨g, 0, none⟩) l.length cap) (toI (arrJ S x rest j)) ∧ w.grownBy wr (some g) ∧ ∀ y ∈ S.drop j, key x < key y) (fun jv _ => (intOf jv).toNat)
    case atStart => exact ⟨i, Nat.le_refl _, rfl, HOi.out, HG.out, fun y hy => by rw [List.drop_of_length_le (Nat.le_of_eq HSL.out)] at hy; cases hy⟩
    case round =>
      obtain ⟨j, hj, rfl, hOj, hgj, hgt⟩ := hrel
      have HOj := hid hOj
      have HGj := hid hgj
      have HGT := hid hgt
      clear hOj hgj hgt HOi HG
      by_cases h0 : 0 < j
      case neg =>
        obtain rfl : j = 0 := by omega
        have hfin := hid (show arrJ S x rest 0 = isort key (l.take (i + 1)) ++ l.drop (i + 1) by
          rw [hnext.out, hre.out, ← insS_at (Nat.zero_le _) hS.out HGT.out (fun h => absurd h (by omega))]
          simp [arrJ])
        rw [hfin.out] at HOj
        as_aux_lemma =>
          go_upto_region 4 with fail
          refine wpIn_wide.1 (wpIn_region_S (n := 0) (fun _ => True) [] (by kernel_rfl) trivial (fun hHeld => ?_))
          refine wpAnyG_pure 0 (v := ?_) (fun _ => trivial) (by simp only [List.getElem?_toArray, List.getElem?_cons_succ, List.getElem?_cons_zero]; rfl) (by kernel_rfl) (fun _ _ _ _ _ h => h) ⟨(by rfl), (by intro c h; cases h), ?_⟩ hHeld ?_
          rotate_left
          focus (intro wS hSw; (try replace hSw := HSF.out wS hSw); (try dsimp only at hSw); go_simp; (try with_reducible rfl))
          (try simp only [Act.put, List.setIfInBounds_toArray, List.set_cons_zero, List.set_cons_succ])
          refine wpAnyG_pure 1 (v := ?_) (fun _ => trivial) (by simp only [List.getElem?_toArray, List.getElem?_cons_succ, List.getElem?_cons_zero]; rfl) (by kernel_rfl) (fun _ _ _ _ _ h => h) ⟨(by rfl), (by intro c h; cases h), ?_⟩ hHeld ?_
          rotate_left
          focus (intro wS hSw; (try replace hSw := HSF.out wS hSw); (try dsimp only at hSw); go_simp; (try with_reducible rfl))
          (try simp only [Act.put, List.setIfInBounds_toArray, List.set_cons_zero, List.set_cons_succ])
          refine wpAnyG_pure 2 (v := ?_) (fun _ => trivial) (by simp only [List.getElem?_toArray, List.getElem?_cons_succ, List.getElem?_cons_zero]; rfl) (by kernel_rfl) (fun _ _ _ _ _ h => h) ⟨(by rfl), (by intro c h; cases h), ?_⟩ hHeld ?_
          rotate_left
          focus (intro wS hSw; (try replace hSw := HSF.out wS hSw); (try dsimp only at hSw); go_simp; (try with_reducible rfl))
          (try simp only [Act.put, List.setIfInBounds_toArray, List.set_cons_zero, List.set_cons_succ])
          refine wpAnyG_pure 3 (v := ?_) (fun _ => trivial) (by simp only [List.getElem?_toArray, List.getElem?_cons_succ, List.getElem?_cons_zero]; rfl) (by kernel_rfl) (fun _ _ _ _ _ h => h) ⟨(by rfl), (by intro c h; cases h), ?_⟩ hHeld ?_
          rotate_left
          focus (intro wS hSw; (try replace hSw := HSF.out wS hSw); (try dsimp only at hSw); go_simp; (try with_reducible rfl))
          (try simp only [Act.put, List.setIfInBounds_toArray, List.set_cons_zero, List.set_cons_succ])
          refine wpAnyG_skip 4 (fun _ => trivial) (by simp only [List.getElem?_toArray, List.getElem?_cons_succ, List.getElem?_cons_zero]; rfl) (by kernel_rfl) (fun _ _ _ _ _ h => h) (by rfl) hHeld ?_
          (try simp only [Act.put, List.setIfInBounds_toArray, List.set_cons_zero, List.set_cons_succ])
          refine wpAnyG_skip 5 (fun _ => trivial) (by simp only [List.getElem?_toArray, List.getElem?_cons_succ, List.getElem?_cons_zero]; rfl) (by kernel_rfl) (fun _ _ _ _ _ h => h) (by rfl) hHeld ?_
          (try simp only [Act.put, List.setIfInBounds_toArray, List.set_cons_zero, List.set_cons_succ])
          refine wpAnyG_skip 6 (fun _ => trivial) (by simp only [List.getElem?_toArray, List.getElem?_cons_succ, List.getElem?_cons_zero]; rfl) (by kernel_rfl) (fun _ _ _ _ _ h => h) (by rfl) hHeld ?_
          (try simp only [Act.put, List.setIfInBounds_toArray, List.set_cons_zero, List.set_cons_succ])
          refine wpAnyG_skip 7 (fun _ => trivial) (by simp only [List.getElem?_toArray, List.getElem?_cons_succ, List.getElem?_cons_zero]; rfl) (by kernel_rfl) (fun _ _ _ _ _ h => h) (by rfl) hHeld ?_
          (try simp only [Act.put, List.setIfInBounds_toArray, List.set_cons_zero, List.set_cons_succ])
          refine wpAnyG_skip 8 (fun _ => trivial) (by simp only [List.getElem?_toArray, List.getElem?_cons_succ, List.getElem?_cons_zero]; rfl) (by kernel_rfl) (fun _ _ _ _ _ h => h) (by rfl) hHeld ?_
          (try simp only [Act.put, List.setIfInBounds_toArray, List.set_cons_zero, List.set_cons_succ])
          refine wpAnyG_skip 9 (fun _ => trivial) (by simp only [List.getElem?_toArray, List.getElem?_cons_succ, List.getElem?_cons_zero]; rfl) (by kernel_rfl) (fun _ _ _ _ _ h => h) (by rfl) hHeld ?_
          (try simp only [Act.put, List.setIfInBounds_toArray, List.set_cons_zero, List.set_cons_succ])
          refine wpAnyG_skip 10 (fun _ => trivial) (by simp only [List.getElem?_toArray, List.getElem?_cons_succ, List.getElem?_cons_zero]; rfl) (by kernel_rfl) (fun _ _ _ _ _ h => h) (by rfl) hHeld ?_
          (try simp only [Act.put, List.setIfInBounds_toArray, List.set_cons_zero, List.set_cons_succ])
          refine wpAnyG_skip 11 (fun _ => trivial) (by simp only [List.getElem?_toArray, List.getElem?_cons_succ, List.getElem?_cons_zero]; rfl) (by kernel_rfl) (fun _ _ _ _ _ h => h) (by rfl) hHeld ?_
          (try simp only [Act.put, List.setIfInBounds_toArray, List.set_cons_zero, List.set_cons_succ])
          refine wpAnyG_skip 12 (fun _ => trivial) (by simp only [List.getElem?_toArray, List.getElem?_cons_succ, List.getElem?_cons_zero]; rfl) (by kernel_rfl) (fun _ _ _ _ _ h => h) (by rfl) hHeld ?_
          (try simp only [Act.put, List.setIfInBounds_toArray, List.set_cons_zero, List.set_cons_succ])
          refine wpAnyG_skip 13 (fun _ => trivial) (by simp only [List.getElem?_toArray, List.getElem?_cons_succ, List.getElem?_cons_zero]; rfl) (by kernel_rfl) (fun _ _ _ _ _ h => h) (by rfl) hHeld ?_
          (try simp only [Act.put, List.setIfInBounds_toArray, List.set_cons_zero, List.set_cons_succ])
          refine wpAnyG_skip 14 (fun _ => trivial) (by simp only [List.getElem?_toArray, List.getElem?_cons_succ, List.getElem?_cons_zero]; rfl) (by kernel_rfl) (fun _ _ _ _ _ h => h) (by rfl) hHeld ?_
          (try simp only [Act.put, List.setIfInBounds_toArray, List.set_cons_zero, List.set_cons_succ])
          refine wpAnyG_skip 15 (fun _ => trivial) (by simp only [List.getElem?_toArray, List.getElem?_cons_succ, List.getElem?_cons_zero]; rfl) (by kernel_rfl) (fun _ _ _ _ _ h => h) (by rfl) hHeld ?_
          (try simp only [Act.put, List.setIfInBounds_toArray, List.set_cons_zero, List.set_cons_succ])
          refine wpAnyG_pure 16 (v := ?_) (fun _ => trivial) (by simp only [List.getElem?_toArray, List.getElem?_cons_succ, List.getElem?_cons_zero]; rfl) (by kernel_rfl) (fun _ _ _ _ _ h => h) ⟨(by rfl), (by intro c h; cases h), ?_⟩ hHeld ?_
          rotate_left
          focus (intro wS hSw; (try replace hSw := HSF.out wS hSw); (try dsimp only at hSw); go_simp; (try with_reducible rfl))
          (try simp only [Act.put, List.setIfInBounds_toArray, List.set_cons_zero, List.set_cons_succ])
          refine wpAnyS_done (by kernel_rfl) ?_
          go_wp2_with fail
          go_roundw
          case rel => exact ⟨i + 1, by omega, by omega, by go_num, HOj.out.drew, gr_tr HGj.out (gr_drew _ _)⟩
          case measure => simp [intOf]; omega
      obtain ⟨jp, rfl⟩ : ∃ jp, j = jp + 1 := ⟨j - 1, by omega⟩
      clear h0
      have hjS : jp < S.length := by have := HSL.out; omega
      have hal := hid (@arrJ_len S rest x (jp + 1))
      have hc1 := hid (arrJ_at (S := S) (rest := rest) (x := x) (j := jp + 1) (by omega))
      have hc2 := hid (arrJ_pred (rest := rest) (x := x) hjS)
      have hsw := hid (arrJ_swap (rest := rest) (x := x) hjS)
      have hlt1 : jp + 1 < (arrJ S x rest (jp + 1)).length := by have := hal.out; omega
      have hlt2 : jp < (arrJ S x rest (jp + 1)).length := by have := hal.out; omega
      have e1 := HOj.out.at_ (k := jp + 1) (by rw [toI_len]; exact hlt1)
      have e2 := HOj.out.at_ (k := jp) (by rw [toI_len]; exact hlt2)
      rw [toI_at hlt1, (List.getElem?_eq_some_iff.1 hc1.out).2] at e1
      rw [toI_at hlt2, (List.getElem?_eq_some_iff.1 hc2.out).2] at e2
      have hym2 := hid (hym.out _ (List.getElem_mem hjS))
      have hd0 := hid (show S.drop jp = S[jp] :: S.drop (jp + 1) from List.drop_eq_getElem_cons hjS)
      have hins := hid (fun (hle : key S[jp] ≤ key x) => show arrJ S x rest (jp + 1) = isort key (l.take (i + 1)) ++ l.drop (i + 1) by
        rw [hnext.out, hre.out, ← insS_at (j := jp + 1) (by omega) hS.out HGT.out (fun _ => by simpa using hle)]
        simp [arrJ])
      have HLl := hid hlt1; have HLl2 := hid hlt2
      have hl1I : ((jp + 1 : Nat) : Int) < l.length := by have := hrl.out; omega
      have hl2I : (jp : Int) < l.length := by omega
      have hfz1 : wr.frozen? ⟨g, jp + 1, none⟩ = false := by
        obtain ⟨g', cap', cur, hv, _, hb, _⟩ := own_cell HOj.out (by rw [toI_len]; omega)
        injection hv with hv _ _
        injection hv with hv
        injection hv with hv
        subst hv
        exact hb.frozen _
      have hfz2 : wr.frozen? ⟨g, jp, none⟩ = false := by
        obtain ⟨g', cap', cur, hv, _, hb, _⟩ := own_cell HOj.out (by rw [toI_len]; omega)
        injection hv with hv _ _
        injection hv with hv
        injection hv with hv
        subst hv
        exact hb.frozen _
      have hgz : g < wr.heap.size := by
        obtain ⟨g', cap', cur, hv, _, hb, _⟩ := own_cell HOj.out (by rw [toI_len]; omega)
        injection hv with hv _ _
        injection hv with hv
        injection hv with hv
        subst hv
        exact hb.lt
      clear hlt1 hlt2 hal hc1 hc2
      generalize S[jp] = y at *
      generalize hjj : jp + 1 = j at *
      have hw1 : IntKind.i64.wrap ((j : Int) - 1) = jp := by rw [IntWalk.i64_in _ (by omega)]; omega
      have HJJ := hid hjj
      have hj0 : (0 : Int) < j := by omega
      have hj0n : 0 < j := by omega
      clear hjj
      have eg := HEG.out
      have HC := hid (HP.out wr.drew x y (gr_tr HGj.out (gr_drew _ _)) hxm.out hym2.out)
      have bd := hid (show Below wr.heap.size wr wr.drew by (repeat (first | exact Below.refl _ _ | assumption | refine below_drewN ?_ _ | refine Below.drew ?_ | refine Below.alloc ?_ (by (try simp); (try omega)) _ | refine Below.setCell ?_ (by (try simp); (try omega)) _)))
      have hcn := hid (@cmpI_neg (key x) (key y))
      generalize cmpI (key x) (key y) = cc at *
      go_upto_region 4 with fail
      refine wpIn_wide.1 (wpIn_region_S (n := 0) (fun wq => wq.cell? ⟨g, j, none⟩ = some (.int .i64 (x : Int)) ∧ wq.cell? ⟨g, jp, none⟩ = some (.int .i64 (y : Int))) [14] (by kernel_rfl) ⟨e1, e2⟩ (fun hHeld => ?_))
      refine wpAnyG_pure 0 (v := ?_) (fun _ => trivial) (by simp only [List.getElem?_toArray, List.getElem?_cons_succ, List.getElem?_cons_zero]; rfl) (by kernel_rfl) (fun _ _ _ _ _ h => h) ⟨(by rfl), (by intro c h; cases h), ?_⟩ hHeld ?_
      rotate_left
      focus (intro wS hSw; (try replace hSw := HSF.out wS hSw); (try dsimp only at hSw); go_simp; (try with_reducible rfl))
      (try simp only [Act.put, List.setIfInBounds_toArray, List.set_cons_zero, List.set_cons_succ])
      refine wpAnyG_pure 1 (v := ?_) (fun _ => trivial) (by simp only [List.getElem?_toArray, List.getElem?_cons_succ, List.getElem?_cons_zero]; rfl) (by kernel_rfl) (fun _ _ _ _ _ h => h) ⟨(by rfl), (by intro c h; cases h), ?_⟩ hHeld ?_
      rotate_left
      focus (intro wS hSw; (try replace hSw := HSF.out wS hSw); (try dsimp only at hSw); go_simp; (try with_reducible rfl))
      (try simp only [Act.put, List.setIfInBounds_toArray, List.set_cons_zero, List.set_cons_succ])
      refine wpAnyG_pure 2 (v := ?_) (fun _ => trivial) (by simp only [List.getElem?_toArray, List.getElem?_cons_succ, List.getElem?_cons_zero]; rfl) (by kernel_rfl) (fun _ _ _ _ _ h => h) ⟨(by rfl), (by intro c h; cases h), ?_⟩ hHeld ?_
      rotate_left
      focus (intro wS hSw; (try replace hSw := HSF.out wS hSw); (try dsimp only at hSw); go_simp; (try with_reducible rfl))
      (try simp only [Act.put, List.setIfInBounds_toArray, List.set_cons_zero, List.set_cons_succ])
      refine wpAnyG_pure 3 (v := ?_) (fun _ => trivial) (by simp only [List.getElem?_toArray, List.getElem?_cons_succ, List.getElem?_cons_zero]; rfl) (by kernel_rfl) (fun _ _ _ _ _ h => h) ⟨(by rfl), (by intro c h; cases h), ?_⟩ hHeld ?_
      rotate_left
      focus (intro wS hSw; (try replace hSw := HSF.out wS hSw); (try dsimp only at hSw); go_simp; (try with_reducible rfl))
      (try simp only [Act.put, List.setIfInBounds_toArray, List.set_cons_zero, List.set_cons_succ])
      refine wpAnyG_pure 4 (v := ?_) (fun _ => trivial) (by simp only [List.getElem?_toArray, List.getElem?_cons_succ, List.getElem?_cons_zero]; rfl) (by kernel_rfl) (fun _ _ _ _ _ h => h) ⟨(by rfl), (by intro c h; cases h), ?_⟩ hHeld ?_
      rotate_left
      focus (intro wS hSw; (try replace hSw := HSF.out wS hSw); (try dsimp only at hSw); go_simp; (try with_reducible rfl))
      (try simp only [Act.put, List.setIfInBounds_toArray, List.set_cons_zero, List.set_cons_succ])
      refine wpAnyG_pure 5 (v := ?_) (fun _ => trivial) (by simp only [List.getElem?_toArray, List.getElem?_cons_succ, List.getElem?_cons_zero]; rfl) (by kernel_rfl) (fun _ _ _ _ _ h => h) ⟨(by rfl), (by intro c h; cases h), ?_⟩ hHeld ?_
      rotate_left
      focus (intro wS hSw; (try replace hSw := HSF.out wS hSw); (try dsimp only at hSw); go_simp; (try with_reducible rfl))
      (try simp only [Act.put, List.setIfInBounds_toArray, List.set_cons_zero, List.set_cons_succ])
      refine wpAnyG_pure 6 (v := ?_) (fun _ => trivial) (by simp only [List.getElem?_toArray, List.getElem?_cons_succ, List.getElem?_cons_zero]; rfl) (by kernel_rfl) (fun _ _ _ _ _ h => h) ⟨(by rfl), (by intro c h; cases h), ?_⟩ hHeld ?_
      rotate_left
      focus (intro wS hSw; (try replace hSw := HSF.out wS hSw); (try dsimp only at hSw); go_simp; (try with_reducible rfl))
      (try simp only [Act.put, List.setIfInBounds_toArray, List.set_cons_zero, List.set_cons_succ])
      refine wpAnyG_pure 7 (v := ?_) (fun _ => trivial) (by simp only [List.getElem?_toArray, List.getElem?_cons_succ, List.getElem?_cons_zero]; rfl) (by kernel_rfl) (fun _ _ _ _ _ h => h) ⟨(by rfl), (by intro c h; cases h), ?_⟩ hHeld ?_
      rotate_left
      focus (intro wS hSw; (try replace hSw := HSF.out wS hSw); (try dsimp only at hSw); go_simp; (try with_reducible rfl))
      (try simp only [Act.put, List.setIfInBounds_toArray, List.set_cons_zero, List.set_cons_succ])
      refine wpAnyG_take 8 (v := ?_) (fun _ => trivial) (by simp only [List.getElem?_toArray, List.getElem?_cons_succ, List.getElem?_cons_zero]; rfl) (by kernel_rfl) (fun _ _ _ _ _ h => h) ⟨(by rfl), (by intro c h; cases h), ?_⟩ hHeld ?_
      rotate_left
      focus (intro wS hSw; (try replace hSw := HSF.out wS hSw); (try dsimp only at hSw); go_simp; (try with_reducible rfl))
      (try simp only [Act.put, List.setIfInBounds_toArray, List.set_cons_zero, List.set_cons_succ])
      refine wpAnyG_pure 9 (v := ?_) (fun _ => trivial) (by simp only [List.getElem?_toArray, List.getElem?_cons_succ, List.getElem?_cons_zero]; rfl) (by kernel_rfl) (fun _ _ _ _ _ h => h) ⟨(by rfl), (by intro c h; cases h), ?_⟩ hHeld ?_
      rotate_left
      focus (intro wS hSw; (try replace hSw := HSF.out wS hSw); (try dsimp only at hSw); go_simp; (try with_reducible rfl))
      (try simp only [Act.put, List.setIfInBounds_toArray, List.set_cons_zero, List.set_cons_succ])
      refine wpAnyG_pure 10 (v := ?_) (fun _ => trivial) (by simp only [List.getElem?_toArray, List.getElem?_cons_succ, List.getElem?_cons_zero]; rfl) (by kernel_rfl) (fun _ _ _ _ _ h => h) ⟨(by rfl), (by intro c h; cases h), ?_⟩ hHeld ?_
      rotate_left
      focus (intro wS hSw; (try replace hSw := HSF.out wS hSw); (try dsimp only at hSw); go_simp; (try with_reducible rfl))
      (try simp only [Act.put, List.setIfInBounds_toArray, List.set_cons_zero, List.set_cons_succ])
      refine wpAnyG_pure 11 (v := ?_) (fun _ => trivial) (by simp only [List.getElem?_toArray, List.getElem?_cons_succ, List.getElem?_cons_zero]; rfl) (by kernel_rfl) (fun _ _ _ _ _ h => h) ⟨(by rfl), (by intro c h; cases h), ?_⟩ hHeld ?_
      rotate_left
      focus (intro wS hSw; (try replace hSw := HSF.out wS hSw); (try dsimp only at hSw); go_simp; (try with_reducible rfl))
      (try simp only [Act.put, List.setIfInBounds_toArray, List.set_cons_zero, List.set_cons_succ])
      refine wpAnyG_pure 12 (v := ?_) (fun _ => trivial) (by simp only [List.getElem?_toArray, List.getElem?_cons_succ, List.getElem?_cons_zero]; rfl) (by kernel_rfl) (fun _ _ _ _ _ h => h) ⟨(by rfl), (by intro c h; cases h), ?_⟩ hHeld ?_
      rotate_left
      focus (intro wS hSw; (try replace hSw := HSF.out wS hSw); (try dsimp only at hSw); go_simp; (try with_reducible rfl))
      (try simp only [Act.put, List.setIfInBounds_toArray, List.set_cons_zero, List.set_cons_succ])
      refine wpAnyG_take 13 (v := ?_) (fun _ => trivial) (by simp only [List.getElem?_toArray, List.getElem?_cons_succ, List.getElem?_cons_zero]; rfl) (by kernel_rfl) (fun _ _ _ _ _ h => h) ⟨(by rfl), (by intro c h; cases h), ?_⟩ hHeld ?_
      rotate_left
      focus (intro wS hSw; (try replace hSw := HSF.out wS hSw); (try dsimp only at hSw); go_simp; (try with_reducible rfl))
      (try simp only [Act.put, List.setIfInBounds_toArray, List.set_cons_zero, List.set_cons_succ])
      refine wpAnyS_ready [14] (by kernel_rfl) (by simp) (AllReadyS.consLG (by simp only [List.getElem?_toArray, List.getElem?_cons_succ, List.getElem?_cons_zero]; rfl) (by rfl) (by kernel_rfl) (fun K hK => ?_) AllReadyS.nil)
      refine callS (by intro c h; cases h) (by go_simp; try with_reducible rfl) HC.out ?_
      intro w5 hB5
      have B5 := hid (bd.out.trans (hB5.mono bd.out.size))
      refine hK.out _ _ ?_
      (try simp only [Act.put, List.setIfInBounds_toArray, List.set_cons_zero, List.set_cons_succ])
      clear hK K hHeld eg
      refine wpAnyG_pureL 15 (v := ?_) (fun _ => trivial) (by simp only [List.getElem?_toArray, List.getElem?_cons_succ, List.getElem?_cons_zero]; rfl) (by kernel_rfl) (by kernel_rfl) (fun _ _ _ _ _ h => h) ⟨(by rfl), (by intro c h; cases h), ?_⟩ ?_
      rotate_left
      focus (intro wS hSw; (try replace hSw := HSF.out wS hSw); (try dsimp only at hSw); go_simp; (try with_reducible rfl))
      (try simp only [Act.put, List.setIfInBounds_toArray, List.set_cons_zero, List.set_cons_succ])
      refine wpAnyG_pureL 16 (v := ?_) (fun _ => trivial) (by simp only [List.getElem?_toArray, List.getElem?_cons_succ, List.getElem?_cons_zero]; rfl) (by kernel_rfl) (by kernel_rfl) (fun _ _ _ _ _ h => h) ⟨(by rfl), (by intro c h; cases h), ?_⟩ ?_
      rotate_left
      focus (intro wS hSw; (try replace hSw := HSF.out wS hSw); (try dsimp only at hSw); go_simp; (try with_reducible rfl))
      (try simp only [Act.put, List.setIfInBounds_toArray, List.set_cons_zero, List.set_cons_succ])
      refine wpAnyS_done (by kernel_rfl) ?_
      have O5 := hid (HOj.out.below B5.out)
      have G5 := hid (gr_tr HGj.out (gr_below B5.out _))
      replace e1 := (bcell B5.out g _ hgz).trans e1
      replace e2 := (bcell B5.out g _ hgz).trans e2
      replace hfz1 := (bfrozen B5.out g _ hgz).trans hfz1
      replace hfz2 := (bfrozen B5.out g _ hgz).trans hfz2
      replace hgz : g < w5.heap.size := by have := B5.out.size; omega
      clear HC HOj HGj hB5 B5 bd
      by_cases hcc : cc < 0
      case neg =>
        have hfin := hid (hins.out (by have := mt hcn.out.2 hcc; omega))
        rw [hfin.out] at O5
        clear hins hcn e1 e2
        as_aux_lemma =>
          go_wp2_with fail
          go_roundw
          case rel => exact ⟨i + 1, by omega, by omega, by go_num, O5.out, G5.out⟩
          case measure => simp [intOf]; omega
      have hxy := hid (hcn.out.1 hcc)
      have hgt2 := hid (show ∀ z ∈ S.drop jp, key x < key z from fun z hz => by
        rw [hd0.out] at hz
        rcases List.mem_cons.1 hz with rfl | hz
        · exact hxy.out
        · exact HGT.out z hz)
      have O6 := hid (show OwnI ((w5.setCell ⟨g, j, none⟩ (.int .i64 (y : Int))).setCell ⟨g, jp, none⟩ (.int .i64 (x : Int))) base (.slice (some ⟨g, 0, none⟩) l.length cap) (toI (arrJ S x rest jp)) by
        have h1 := O5.out.set_ (k := j) (by rw [toI_len]; exact HLl.out) (y : Int)
        have h2 := h1.set_ (k := jp) (by rw [List.length_set, toI_len]; exact HLl2.out) (x : Int)
        rw [toI_set, toI_set, hsw.out] at h2
        exact h2)
      have e3 := (O5.out.set_ (k := j) (by rw [toI_len]; exact HLl.out) (y : Int)).at_ (k := jp) (by rw [List.length_set, toI_len]; exact HLl2.out)
      generalize ((toI (arrJ S x rest j)).set j (y : Int))[jp]'(by rw [List.length_set, toI_len]; exact HLl2.out) = uu at e3
      have G6 := hid (gr_tr (gr_tr G5.out (gr_set w5 g j (.int .i64 (y : Int)))) (gr_set _ g jp (.int .i64 (x : Int))))
      clear hins hcn O5 G5 hxy
      go_upto_region 6 with fail
      refine wpIn_wide.1 (wpIn_region_S (n := 0) (fun wq => wq.cell? ⟨g, j, none⟩ = some (.int .i64 (x : Int)) ∧ wq.cell? ⟨g, jp, none⟩ = some (.int .i64 (y : Int))) [15] (by kernel_rfl) ⟨e1, e2⟩ (fun hHeld => ?_))
      refine wpAnyS_pure 0 (v := ?_) (fun _ => trivial) (by simp only [List.getElem?_toArray, List.getElem?_cons_succ, List.getElem?_cons_zero]; rfl) (by kernel_rfl) (fun _ _ _ _ _ h => h) ⟨rfl, (by intro c h; cases h), ?_⟩ hHeld ?_
      rotate_left
      focus (intro wS hSw; (try replace hSw := HSF.out wS hSw); (try dsimp only at hSw); go_simp; (try with_reducible rfl))
      (try simp only [Act.put, List.setIfInBounds_toArray, List.set_cons_zero, List.set_cons_succ])
      refine wpAnyS_pure 1 (v := ?_) (fun _ => trivial) (by simp only [List.getElem?_toArray, List.getElem?_cons_succ, List.getElem?_cons_zero]; rfl) (by kernel_rfl) (fun _ _ _ _ _ h => h) ⟨rfl, (by intro c h; cases h), ?_⟩ hHeld ?_
      rotate_left
      focus (intro wS hSw; (try replace hSw := HSF.out wS hSw); (try dsimp only at hSw); go_simp; (try with_reducible rfl))
      (try simp only [Act.put, List.setIfInBounds_toArray, List.set_cons_zero, List.set_cons_succ])
      refine wpAnyS_pure 2 (v := ?_) (fun _ => trivial) (by simp only [List.getElem?_toArray, List.getElem?_cons_succ, List.getElem?_cons_zero]; rfl) (by kernel_rfl) (fun _ _ _ _ _ h => h) ⟨rfl, (by intro c h; cases h), ?_⟩ hHeld ?_
      rotate_left
      focus (intro wS hSw; (try replace hSw := HSF.out wS hSw); (try dsimp only at hSw); go_simp; (try with_reducible rfl))
      (try simp only [Act.put, List.setIfInBounds_toArray, List.set_cons_zero, List.set_cons_succ])
      refine wpAnyS_pure 3 (v := ?_) (fun _ => trivial) (by simp only [List.getElem?_toArray, List.getElem?_cons_succ, List.getElem?_cons_zero]; rfl) (by kernel_rfl) (fun _ _ _ _ _ h => h) ⟨rfl, (by intro c h; cases h), ?_⟩ hHeld ?_
      rotate_left
      focus (intro wS hSw; (try replace hSw := HSF.out wS hSw); (try dsimp only at hSw); go_simp; (try with_reducible rfl))
      (try simp only [Act.put, List.setIfInBounds_toArray, List.set_cons_zero, List.set_cons_succ])
      refine wpAnyS_pure 4 (v := ?_) (fun _ => trivial) (by simp only [List.getElem?_toArray, List.getElem?_cons_succ, List.getElem?_cons_zero]; rfl) (by kernel_rfl) (fun _ _ _ _ _ h => h) ⟨rfl, (by intro c h; cases h), ?_⟩ hHeld ?_
      rotate_left
      focus (intro wS hSw; (try replace hSw := HSF.out wS hSw); (try dsimp only at hSw); go_simp; (try with_reducible rfl))
      (try simp only [Act.put, List.setIfInBounds_toArray, List.set_cons_zero, List.set_cons_succ])
      refine wpAnyS_pure 5 (v := ?_) (fun _ => trivial) (by simp only [List.getElem?_toArray, List.getElem?_cons_succ, List.getElem?_cons_zero]; rfl) (by kernel_rfl) (fun _ _ _ _ _ h => h) ⟨rfl, (by intro c h; cases h), ?_⟩ hHeld ?_
      rotate_left
      focus (intro wS hSw; (try replace hSw := HSF.out wS hSw); (try dsimp only at hSw); go_simp; (try with_reducible rfl))
      (try simp only [Act.put, List.setIfInBounds_toArray, List.set_cons_zero, List.set_cons_succ])
      refine wpAnyS_pure 6 (v := ?_) (fun _ => trivial) (by simp only [List.getElem?_toArray, List.getElem?_cons_succ, List.getElem?_cons_zero]; rfl) (by kernel_rfl) (fun _ _ _ _ _ h => h) ⟨rfl, (by intro c h; cases h), ?_⟩ hHeld ?_
      rotate_left
      focus (intro wS hSw; (try replace hSw := HSF.out wS hSw); (try dsimp only at hSw); go_simp; (try with_reducible rfl))
      (try simp only [Act.put, List.setIfInBounds_toArray, List.set_cons_zero, List.set_cons_succ])
      refine wpAnyS_pure 7 (v := ?_) (fun _ => trivial) (by simp only [List.getElem?_toArray, List.getElem?_cons_succ, List.getElem?_cons_zero]; rfl) (by kernel_rfl) (fun _ _ _ _ _ h => h) ⟨rfl, (by intro c h; cases h), ?_⟩ hHeld ?_
      rotate_left
      focus (intro wS hSw; (try replace hSw := HSF.out wS hSw); (try dsimp only at hSw); go_simp; (try with_reducible rfl))
      (try simp only [Act.put, List.setIfInBounds_toArray, List.set_cons_zero, List.set_cons_succ])
      refine wpAnyS_pure 8 (v := ?_) (fun _ => trivial) (by simp only [List.getElem?_toArray, List.getElem?_cons_succ, List.getElem?_cons_zero]; rfl) (by kernel_rfl) (fun _ _ _ _ _ h => h) ⟨rfl, (by intro c h; cases h), ?_⟩ hHeld ?_
      rotate_left
      focus (intro wS hSw; (try replace hSw := HSF.out wS hSw); (try dsimp only at hSw); go_simp; (try with_reducible rfl))
      (try simp only [Act.put, List.setIfInBounds_toArray, List.set_cons_zero, List.set_cons_succ])
      refine wpAnyS_take 9 (v := ?_) (fun _ => trivial) (by simp only [List.getElem?_toArray, List.getElem?_cons_succ, List.getElem?_cons_zero]; rfl) (by kernel_rfl) (fun _ _ _ _ _ h => h) ⟨rfl, (by intro c h; cases h), ?_⟩ hHeld ?_
      rotate_left
      focus (intro wS hSw; (try replace hSw := HSF.out wS hSw); (try dsimp only at hSw); go_simp; (try with_reducible rfl))
      (try simp only [Act.put, List.setIfInBounds_toArray, List.set_cons_zero, List.set_cons_succ])
      refine wpAnyS_pure 10 (v := ?_) (fun _ => trivial) (by simp only [List.getElem?_toArray, List.getElem?_cons_succ, List.getElem?_cons_zero]; rfl) (by kernel_rfl) (fun _ _ _ _ _ h => h) ⟨rfl, (by intro c h; cases h), ?_⟩ hHeld ?_
      rotate_left
      focus (intro wS hSw; (try replace hSw := HSF.out wS hSw); (try dsimp only at hSw); go_simp; (try with_reducible rfl))
      (try simp only [Act.put, List.setIfInBounds_toArray, List.set_cons_zero, List.set_cons_succ])
      refine wpAnyS_pure 11 (v := ?_) (fun _ => trivial) (by simp only [List.getElem?_toArray, List.getElem?_cons_succ, List.getElem?_cons_zero]; rfl) (by kernel_rfl) (fun _ _ _ _ _ h => h) ⟨rfl, (by intro c h; cases h), ?_⟩ hHeld ?_
      rotate_left
      focus (intro wS hSw; (try replace hSw := HSF.out wS hSw); (try dsimp only at hSw); go_simp; (try with_reducible rfl))
      (try simp only [Act.put, List.setIfInBounds_toArray, List.set_cons_zero, List.set_cons_succ])
      refine wpAnyS_pure 12 (v := ?_) (fun _ => trivial) (by simp only [List.getElem?_toArray, List.getElem?_cons_succ, List.getElem?_cons_zero]; rfl) (by kernel_rfl) (fun _ _ _ _ _ h => h) ⟨rfl, (by intro c h; cases h), ?_⟩ hHeld ?_
      rotate_left
      focus (intro wS hSw; (try replace hSw := HSF.out wS hSw); (try dsimp only at hSw); go_simp; (try with_reducible rfl))
      (try simp only [Act.put, List.setIfInBounds_toArray, List.set_cons_zero, List.set_cons_succ])
      refine wpAnyS_take 13 (v := ?_) (fun _ => trivial) (by simp only [List.getElem?_toArray, List.getElem?_cons_succ, List.getElem?_cons_zero]; rfl) (by kernel_rfl) (fun _ _ _ _ _ h => h) ⟨rfl, (by intro c h; cases h), ?_⟩ hHeld ?_
      rotate_left
      focus (intro wS hSw; (try replace hSw := HSF.out wS hSw); (try dsimp only at hSw); go_simp; (try with_reducible rfl))
      (try simp only [Act.put, List.setIfInBounds_toArray, List.set_cons_zero, List.set_cons_succ])
      refine wpAnyS_pure 14 (v := ?_) (fun _ => trivial) (by simp only [List.getElem?_toArray, List.getElem?_cons_succ, List.getElem?_cons_zero]; rfl) (by kernel_rfl) (fun _ _ _ _ _ h => h) ⟨rfl, (by intro c h; cases h), ?_⟩ hHeld ?_
      rotate_left
      focus (intro wS hSw; (try replace hSw := HSF.out wS hSw); (try dsimp only at hSw); go_simp; (try with_reducible rfl))
      (try simp only [Act.put, List.setIfInBounds_toArray, List.set_cons_zero, List.set_cons_succ])
      refine wpAnyS_ready [15] (by kernel_rfl) (by simp) (AllReadyS.consL (by simp only [List.getElem?_toArray, List.getElem?_cons_succ, List.getElem?_cons_zero]; rfl) rfl (by kernel_rfl) (fun K hK => ?_) AllReadyS.nil)
      go_simp
      refine hK.out _ _ ?_
      clear hK K hHeld
      refine wpAnyS_pureL 16 (v := ?_) (fun _ => trivial) (by simp only [List.getElem?_toArray, List.getElem?_cons_succ, List.getElem?_cons_zero]; rfl) (by kernel_rfl) (by kernel_rfl) (fun _ _ _ _ _ h => h) ⟨rfl, (by intro c h; cases h), ?_⟩ ?_
      rotate_left
      focus (intro wS hSw; (try replace hSw := HSF.out wS hSw); (try dsimp only at hSw); go_simp; (try with_reducible rfl))
      (try simp only [Act.put, List.setIfInBounds_toArray, List.set_cons_zero, List.set_cons_succ])
      refine wpAnyS_ready [17] (by kernel_rfl) (by simp) (AllReadyS.consL (by simp only [List.getElem?_toArray, List.getElem?_cons_succ, List.getElem?_cons_zero]; rfl) rfl (by kernel_rfl) (fun K hK => ?_) AllReadyS.nil)
      go_simp
      refine hK.out _ _ ?_
      clear hK K
      refine wpAnyS_done (by kernel_rfl) ?_
      go_wp2_with fail
      go_roundw
      case rel => exact ⟨jp, by have := HJJ.out; omega, by go_num, O6.out.drew, gr_tr G6.out (gr_drew _ _), hgt2.out⟩
      case measure => have := HJJ.out; simp [intOf]; omega
end Go.Proofs.YtfpehakllnkaeaaGreatDoor
