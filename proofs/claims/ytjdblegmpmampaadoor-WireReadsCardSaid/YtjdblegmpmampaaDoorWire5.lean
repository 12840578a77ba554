/- Wire: the reference's Num, Int, Text, Nums, Texts. -/
import Derived.Test.YtjdblegmpmampaaDoorWire4
set_option linter.unusedSimpArgs false
set_option linter.unusedVariables false
namespace Go.Proofs.YtjdblegmpmampaaDoor
open Go.RowKit Go.IntWalk

theorem numL_zero (l : List UInt8) (en : UInt8) : numL l en 0 = match numL l en (-9223372036854775808) with
    | some (v, r) => if v < 0 then none else some (v, r)
    | none => none := by
  unfold numL
  split
  · rfl
  · cases h : Lib.atoiAll ((l.take 21).take (Lib.indexByte (l.take 21) en).toNat) with
    | ok v =>
      have hb := Lib.atoiAll_bounds h
      simp only
      by_cases h1 : Lib.itoa v = (l.take 21).take (Lib.indexByte (l.take 21) en).toNat
      · by_cases h2 : v < 0
        · rw [if_neg (by omega), if_pos ⟨h1, hb.1⟩]; simp [h2]
        · rw [if_pos ⟨h1, by omega⟩, if_pos ⟨h1, hb.1⟩]; simp [h2]
      · rw [if_neg (fun h => h1 h.1), if_neg (fun h => h1 h.1)]
    | _ => rfl
set_option maxHeartbeats 1000000 in
theorem numberR_any (b : Nat) (l : List UInt8) (bad : Bool) (en : UInt8) (hen : 57 < en.toNat) (w : World) (h : Rr w b l bad) (hl : l.length ≤ 1000000000000) :
    Calls Tryd.prog 54 #[.pointer (some ⟨b, 0, none⟩), .int .u8 en.toNat] w (RrRes w b bad (numL l en 0)) := by
  have H := hid (aheadR_any b l bad en hen w h hl)
  have hz := hid (numL_zero l en)
  cases hr : numL l en (-9223372036854775808) with
  | none =>
    rw [hr] at H hz
    go_enter Tryd.func54, Tryd.ntmps54
    go_wp2_with fail
    refine H.out.mono ?_
    rintro e w1 ⟨rfl, h1, hg⟩
    go_wp2_with fail
    go_ret
    exact rrRes_none hz.out rfl h1 hg
  | some x =>
    obtain ⟨v, r⟩ := x
    rw [hr] at H hz
    have hv := (numL_bd hr).bd
    clear hr
    by_cases hn : v < 0
    · have hz2 := hid (show numL l en 0 = none by rw [hz.out]; simp [hn])
      go_enter Tryd.func54, Tryd.ntmps54
      go_wp2_with fail
      refine H.out.mono ?_
      rintro e w1 ⟨rfl, h1, hg⟩
      go_wp2_with fail
      refine (failR_any _ _ _ _ h1).mono ?_
      rintro e w2 ⟨rfl, h2, hg2⟩
      go_wp2_with fail
      go_ret
      exact rrRes_none hz2.out rfl h2 (grown_trans hg hg2)
    · have hz2 := hid (show numL l en 0 = some (v, r) by rw [hz.out]; simp [hn])
      go_enter Tryd.func54, Tryd.ntmps54
      go_wp2_with fail
      refine H.out.mono ?_
      rintro e w1 ⟨rfl, h1, hg⟩
      go_wp2_with fail
      go_ret
      rw [hz2.out]
      exact ⟨rfl, h1, hg⟩
set_option maxHeartbeats 400000 in
theorem numRr_any (b : Nat) (l : List UInt8) (bad : Bool) (w : World) (h : Rr w b l bad) (hl : l.length ≤ 1000000000000) :
    Calls Tryd.prog 33 #[.pointer (some ⟨b, 0, none⟩)] w (RrRes w b bad (numL l 59 0)) := by
  have H := hid (numberR_any b l bad 59 (by decide) w h hl)
  cases hr : numL l 59 0 with
  | none =>
    rw [hr] at H
    go_enter Tryd.func33, Tryd.ntmps33
    go_wp2_with fail
    refine H.out.mono ?_
    rintro e w1 ⟨rfl, h1, h2⟩
    go_wp2_with fail
    go_ret
    exact ⟨rfl, h1, h2⟩
  | some x =>
    obtain ⟨v, l'⟩ := x
    rw [hr] at H
    go_enter Tryd.func33, Tryd.ntmps33
    go_wp2_with fail
    refine H.out.mono ?_
    rintro e w1 ⟨rfl, h1, h2⟩
    go_wp2_with fail
    go_ret
    exact ⟨rfl, h1, h2⟩
set_option maxHeartbeats 400000 in
theorem intRr_any (b : Nat) (l : List UInt8) (bad : Bool) (w : World) (h : Rr w b l bad) (hl : l.length ≤ 1000000000000) :
    Calls Tryd.prog 34 #[.pointer (some ⟨b, 0, none⟩)] w (RrRes w b bad (numL l 59 (-9223372036854775808))) := by
  have H := hid (aheadR_any b l bad 59 (by decide) w h hl)
  cases hr : numL l 59 (-9223372036854775808) with
  | none =>
    rw [hr] at H
    go_enter Tryd.func34, Tryd.ntmps34
    go_wp2_with fail
    refine H.out.mono ?_
    rintro e w1 ⟨rfl, h1, h2⟩
    go_wp2_with fail
    go_ret
    exact ⟨rfl, h1, h2⟩
  | some x =>
    obtain ⟨v, l'⟩ := x
    rw [hr] at H
    go_enter Tryd.func34, Tryd.ntmps34
    go_wp2_with fail
    refine H.out.mono ?_
    rintro e w1 ⟨rfl, h1, h2⟩
    go_wp2_with fail
    go_ret
    exact ⟨rfl, h1, h2⟩
def TrRes (w : World) (b : Nat) (r : Option (List UInt8 × List UInt8)) (e : Ending) (w' : World) : Prop :=
  match r with
  | some (s, l) => e = .returned (.string (bs s)) ∧ Rr w' b l false ∧ w.grownBy w' (some b)
  | none => e = .returned (.string ⟨#[]⟩) ∧ Rr w' b [] true ∧ w.grownBy w' (some b)
theorem trRes_none {w w' : World} {b : Nat} {r : Option (List UInt8 × List UInt8)} {e : Ending} (hr : r = none) (he : e = .returned (.string ⟨#[]⟩)) (h1 : Rr w' b [] true) (h2 : w.grownBy w' (some b)) : TrRes w b r e w' := by
  subst hr; exact ⟨he, h1, h2⟩
set_option maxHeartbeats 1000000 in
theorem textRr_any (b : Nat) (l : List UInt8) (bad : Bool) (w : World) (h : Rr w b l bad) (hbad : bad = true → l = []) (hl : l.length ≤ 1000000000000) :
    Calls Tryd.prog 35 #[.pointer (some ⟨b, 0, none⟩)] w (TrRes w b (textL l)) := by
  have H := hid (numberR_any b l bad 58 (by decide) w h hl)
  cases hr : numL l 58 0 with
  | none =>
    rw [hr] at H
    have ht := hid (show textL l = none by rw [textL, hr])
    clear hr
    go_enter Tryd.func35, Tryd.ntmps35
    go_wp2_with fail
    refine H.out.mono ?_
    rintro e w1 ⟨rfl, h1, hg1⟩
    obtain ⟨c0, c1⟩ := blk2' h1
    go_wp2_with fail
    refine (failR_any b [] true _ h1).mono ?_
    rintro e w2 ⟨rfl, h3, hg2⟩
    go_wp2_with fail
    go_ret
    exact trRes_none ht.out rfl h3 (grown_trans hg1 hg2)
  | some x =>
    obtain ⟨v, l1⟩ := x
    rw [hr] at H
    obtain ⟨hl1, hv⟩ := numL_shorter hr
    have hnb : bad = false := by
      cases bad with
      | false => rfl
      | true => rw [hbad rfl] at hr; simp [numL, Lib.indexByte] at hr
    subst hnb
    obtain ⟨n, rfl⟩ : ∃ n : Nat, v = n := ⟨v.toNat, by omega⟩
    have hsz2 : (bs l1).size ≤ 1000000000000 := by rw [bs_size]; omega
    by_cases hn : n < (bs l1).size
    · have hn' : n ≤ l1.length := by rw [bs_size] at hn; omega
      have ht := hid (show textL l = (cutL (l1.drop n) 44).map fun r => (l1.take n, r) by rw [textL, hr]; simp; omega)
      have hn2 : ¬ ((bs l1).size : Int) ≤ n := by omega
      have hl9 : (l1.drop n).length ≤ 1000000000000 := by simp; omega
      clear hr hv hl1
      go_enter Tryd.func35, Tryd.ntmps35
      go_wp2_with fail
      refine H.out.mono ?_
      rintro e w1 ⟨rfl, h1, hg1⟩
      obtain ⟨c0, c1⟩ := blk2' h1
      have f0 := h1.frozen 0
      have hz := h1.lt
      go_wp2_with fail
      have h2 : Rr (w1.setCell ⟨b, 0, none⟩ (.string ((bs l1).extract n (bs l1).size))) b (l1.drop n) false := by
        have := Blk.set_ h1 0 (.string ((bs l1).extract n (bs l1).size))
        unfold Rr
        rw [show bs (l1.drop n) = (bs l1).extract n (bs l1).size by rw [bs_extract, bs_size, List.take_length]]
        simpa using this
      have hcl := hid (closeR_any b (l1.drop n) false 44 _ h2 hl9)
      cases hc : cutL (l1.drop n) 44 with
      | none =>
        rw [hc] at ht hcl
        clear hc
        refine hcl.out.mono ?_
        rintro e w2 ⟨rfl, hg2, h3⟩
        clear c0 c1 h2 f0
        go_wp2_with fail
        go_ret
        exact trRes_none ht.out rfl h3 (grown_trans hg1 (grown_trans (grown_set _ _ _ _) hg2))
      | some r =>
        rw [hc] at ht hcl
        clear hc
        refine hcl.out.mono ?_
        rintro e w2 ⟨rfl, hg2, h3⟩
        clear c0 c1 h2 f0
        go_wp2_with fail
        go_ret
        rw [ht.out]
        exact ⟨ret_str (by rw [bs_extract, List.drop_zero]), h3, grown_trans hg1 (grown_trans (grown_set _ _ _ _) hg2)⟩
    · have hn2 : ((bs l1).size : Int) ≤ n := by omega
      have ht := hid (show textL l = none by
        have hn3 : l1.length ≤ n := by rw [← bs_size]; omega
        rw [textL, hr]
        simp only [Int.toNat_natCast]
        split
        · rfl
        · rw [List.drop_eq_nil_of_le hn3]; rfl)
      clear hr hv hl1 hn
      go_enter Tryd.func35, Tryd.ntmps35
      go_wp2_with fail
      refine H.out.mono ?_
      rintro e w1 ⟨rfl, h1, hg1⟩
      obtain ⟨c0, c1⟩ := blk2' h1
      go_wp2_with fail
      refine (failR_any b l1 false w1 h1).mono ?_
      rintro e w2 ⟨rfl, h3, hg⟩
      go_wp2_with fail
      go_ret
      exact trRes_none ht.out rfl h3 (grown_trans hg1 hg)
def LrI (w : World) (b : Nat) (r : Option (List Int × List UInt8)) (e : Ending) (w' : World) : Prop :=
  match r with
  | some (xs, l) => ∃ v, e = .returned v ∧ OwnI w' w.heap.size v xs ∧ Rr w' b l false ∧ w.grownBy w' (some b)
  | none => e = .returned (.slice none 0 0) ∧ Rr w' b [] true ∧ w.grownBy w' (some b)
set_option maxHeartbeats 2000000 in
theorem numsRr_any (b : Nat) (l : List UInt8) (bad : Bool) (w : World) (h : Rr w b l bad) (hbad : bad = true → l = []) (hl : l.length ≤ 1000000000000) :
    Calls Tryd.prog 37 #[.pointer (some ⟨b, 0, none⟩)] w (LrI w b (listL fI l)) := by
  have H := hid (numberR_any b l bad 91 (by decide) w h hl)
  cases hr : numL l 91 0 with
  | none =>
    rw [hr] at H
    have ht := hid (show listL fI l = none by rw [listL, hr])
    clear hr
    go_enter Tryd.func37, Tryd.ntmps37
    go_wp2_with fail
    refine H.out.mono ?_
    rintro e w1 ⟨rfl, h1, hg1⟩
    obtain ⟨d0, d1⟩ := blk2' h1
    go_wp2_with fail
    go_loopw [4, 5] (fun v n wr => v = .slice none 0 0 ∧ n = .int .i64 0 ∧ wr = w1) (fun _ _ _ => 0)
    case atStart => exact ⟨rfl, rfl, rfl⟩
    case round =>
      obtain ⟨rfl, rfl, rfl⟩ := hrel
      go_wp2_with fail
      go_ret
      rw [ht.out]
      exact ⟨rfl, h1, hg1⟩
  | some x =>
    obtain ⟨v, l1⟩ := x
    rw [hr] at H
    obtain ⟨hl1, hv⟩ := numL_shorter hr
    have hbd := (numL_bd hr).bd
    have hnb : bad = false := by
      cases bad with
      | false => rfl
      | true => rw [hbad rfl] at hr; simp [numL, Lib.indexByte] at hr
    subst hnb
    obtain ⟨N, rfl⟩ : ∃ n : Nat, v = n := ⟨v.toNat, by omega⟩
    have ht := hid (show listL fI l = (match itemsL fI N l1 with
      | none => none
      | some (xs, l2) => (cutL l2 93).map fun r => (xs, r)) by rw [listL, hr]; simp only [Int.toNat_natCast]; cases itemsL fI N l1 <;> rfl)
    have hbz := h.lt
    clear hr
    go_enter Tryd.func37, Tryd.ntmps37
    go_wp2_with fail
    refine H.out.mono ?_
    rintro e w1 ⟨rfl, h1, hg1⟩
    go_wp2_with fail
    go_loopw [4, 5] (fun v n wr => (∃ (k : Nat) (xs : List Int) (lc : List UInt8), n = .int .i64 k ∧ k ≤ N ∧ OwnI wr w.heap.size v xs ∧ Rr wr b lc false ∧ Hid (itemsL fI N l1 = (itemsL fI (N - k) lc).map fun r => (xs ++ r.1, r.2)) ∧ w.grownBy wr (some b) ∧ xs.length + lc.length ≤ 1000000000000) ∨ (∃ k : Nat, n = .int .i64 k ∧ k ≤ N ∧ Rr wr b [] true ∧ Hid (itemsL fI N l1 = none) ∧ w.grownBy wr (some b))) (fun _ n _ => N - (intOf n).toNat)
    case atStart => exact .inl ⟨0, [], l1, rfl, Nat.zero_le _, OwnI.nil _ _, h1, by simp [Hid], hg1, by simp; omega⟩
    case round =>
      clear h1 hg1 H
      rcases hrel with ⟨k, xs, lc, rfl, hkN, hown, hR, hit, hg, hlen⟩ | ⟨k, rfl, hkN, hR, hit, hg⟩
      · obtain ⟨c0, c1⟩ := blk2' hR
        by_cases hk : k < N
        · have hstep : N - k = (N - (k + 1)) + 1 := by omega
          have hIn := hid (intRr_any b lc false wr hR (by omega))
          cases hf : numL lc 59 (-9223372036854775808) with
          | none =>
            rw [hf] at hIn
            have hit2 := hid (show itemsL fI N l1 = none by rw [hit.out, hstep, itemsL]; simp only [fI, hf]; rfl)
            clear hf hit hstep
            go_wp2_with fail
            refine hIn.out.mono ?_
            rintro e w3 ⟨rfl, h3, hg3⟩
            have hown3 := hown.keptb hg3 hbz
            have hg4 := grown_trans hg hg3
            have hsz := hg4.size
            clear hIn hown hR c0 c1
            go_wp2_with (at_builtin; refine wp_appI _ rfl (.tmp 20) (.tmp 23) rfl w.heap.size _ xs rfl (hown3.alloc _) _ _ [0] rfl (cell1_newK _ _) (by simp; omega) (by simp; omega) ?_; intro v1 w5 ho1 hg5 hat1)
            have h5 : Rr w5 b [] true := Blk.grown (h3.alloc _) hg5 (fun e => by have := hown3.row b e.symm; omega)
            have hg6 := grown_far (grown_trans hg4 (grown_below ((Below.refl _ w3).alloc (Nat.le_refl _) _))) hg5 hown3.row
            go_wp2_with fail
            go_roundw
            case rel => exact .inr ⟨k + 1, by go_num, by omega, h5, hit2, hg6⟩
            case measure => (try simp [intOf]) <;> (try omega)
          | some y =>
            obtain ⟨z, lr⟩ := y
            rw [hf] at hIn
            have hless := numL_less hf
            have hit2 := hid (show itemsL fI N l1 = (itemsL fI (N - (k + 1)) lr).map fun r => ((xs ++ [z]) ++ r.1, r.2) by rw [hit.out, hstep, itemsL]; simp only [fI, hf, Option.map_map]; congr 1; funext r; simp)
            clear hf hit hstep
            go_wp2_with fail
            refine hIn.out.mono ?_
            rintro e w3 ⟨rfl, h3, hg3⟩
            have hown3 := hown.keptb hg3 hbz
            have hg4 := grown_trans hg hg3
            have hsz := hg4.size
            clear hIn hown hR c0 c1
            go_wp2_with (at_builtin; refine wp_appI _ rfl (.tmp 20) (.tmp 23) rfl w.heap.size _ xs rfl (hown3.alloc _) _ _ [z] rfl (cell1_newK _ _) (by simp; omega) (by simp; omega) ?_; intro v1 w5 ho1 hg5 hat1)
            have h5 : Rr w5 b lr false := Blk.grown (h3.alloc _) hg5 (fun e => by have := hown3.row b e.symm; omega)
            have hg6 := grown_far (grown_trans hg4 (grown_below ((Below.refl _ w3).alloc (Nat.le_refl _) _))) hg5 hown3.row
            go_wp2_with fail
            go_roundw
            case rel => exact .inl ⟨k + 1, xs ++ [z], lr, by go_num, by omega, ho1, h5, hit2, hg6, by simp; omega⟩
            case measure => (try simp [intOf]) <;> (try omega)
        · obtain rfl : k = N := by omega
          have hit2 : itemsL fI k l1 = some (xs, lc) := by rw [hit.out, Nat.sub_self]; simp [itemsL]
          clear hit
          have hcl := hid (closeR_any b lc false 93 wr hR (by omega))
          cases hc : cutL lc 93 with
          | none =>
            have ht2 := hid (show listL fI l = none by rw [ht.out, hit2]; simp [hc])
            rw [hc] at hcl
            clear hit2 hc
            go_wp2_with fail
            refine hcl.out.mono ?_
            rintro e w3 ⟨rfl, hg2, h3⟩
            clear c0 c1
            go_wp2_with fail
            go_ret
            rw [ht2.out]
            exact ⟨rfl, h3, grown_trans hg hg2⟩
          | some r =>
            have ht2 := hid (show listL fI l = some (xs, r) by rw [ht.out, hit2]; simp [hc])
            rw [hc] at hcl
            clear hit2 hc
            go_wp2_with fail
            refine hcl.out.mono ?_
            rintro e w3 ⟨rfl, hg2, h3⟩
            clear c0 c1
            go_wp2_with fail
            go_ret
            rw [ht2.out]
            exact ⟨_, rfl, hown.keptb hg2 hbz, h3, grown_trans hg hg2⟩
      · obtain ⟨c0, c1⟩ := blk2' hR
        have ht2 := hid (show listL fI l = none by rw [ht.out, hit.out])
        by_cases hk : (k : Int) < N
        all_goals
          go_wp2_with fail
          go_ret
          rw [ht2.out]
          exact ⟨rfl, hR, hg⟩
def LrS (w : World) (b : Nat) (r : Option (List (List UInt8) × List UInt8)) (e : Ending) (w' : World) : Prop :=
  match r with
  | some (xs, l) => ∃ v, e = .returned v ∧ OwnS w' w.heap.size v xs ∧ Rr w' b l false ∧ w.grownBy w' (some b)
  | none => e = .returned (.slice none 0 0) ∧ Rr w' b [] true ∧ w.grownBy w' (some b)
set_option maxHeartbeats 2000000 in
theorem textsRr_any (b : Nat) (l : List UInt8) (bad : Bool) (w : World) (h : Rr w b l bad) (hbad : bad = true → l = []) (hl : l.length ≤ 1000000000000) :
    Calls Tryd.prog 39 #[.pointer (some ⟨b, 0, none⟩)] w (LrS w b (listL textL l)) := by
  have H := hid (numberR_any b l bad 91 (by decide) w h hl)
  cases hr : numL l 91 0 with
  | none =>
    rw [hr] at H
    have ht := hid (show listL textL l = none by rw [listL, hr])
    clear hr
    go_enter Tryd.func39, Tryd.ntmps39
    go_wp2_with fail
    refine H.out.mono ?_
    rintro e w1 ⟨rfl, h1, hg1⟩
    obtain ⟨d0, d1⟩ := blk2' h1
    go_wp2_with fail
    go_loopw [4, 5] (fun v n wr => v = .slice none 0 0 ∧ n = .int .i64 0 ∧ wr = w1) (fun _ _ _ => 0)
    case atStart => exact ⟨rfl, rfl, rfl⟩
    case round =>
      obtain ⟨rfl, rfl, rfl⟩ := hrel
      go_wp2_with fail
      go_ret
      rw [ht.out]
      exact ⟨rfl, h1, hg1⟩
  | some x =>
    obtain ⟨v, l1⟩ := x
    rw [hr] at H
    obtain ⟨hl1, hv⟩ := numL_shorter hr
    have hbd := (numL_bd hr).bd
    have hnb : bad = false := by
      cases bad with
      | false => rfl
      | true => rw [hbad rfl] at hr; simp [numL, Lib.indexByte] at hr
    subst hnb
    obtain ⟨N, rfl⟩ : ∃ n : Nat, v = n := ⟨v.toNat, by omega⟩
    have ht := hid (show listL textL l = (match itemsL textL N l1 with
      | none => none
      | some (xs, l2) => (cutL l2 93).map fun r => (xs, r)) by rw [listL, hr]; simp only [Int.toNat_natCast]; cases itemsL textL N l1 <;> rfl)
    have hbz := h.lt
    clear hr
    go_enter Tryd.func39, Tryd.ntmps39
    go_wp2_with fail
    refine H.out.mono ?_
    rintro e w1 ⟨rfl, h1, hg1⟩
    go_wp2_with fail
    go_loopw [4, 5] (fun v n wr => (∃ (k : Nat) (xs : List (List UInt8)) (lc : List UInt8), n = .int .i64 k ∧ k ≤ N ∧ OwnS wr w.heap.size v xs ∧ Rr wr b lc false ∧ Hid (itemsL textL N l1 = (itemsL textL (N - k) lc).map fun r => (xs ++ r.1, r.2)) ∧ w.grownBy wr (some b) ∧ xs.length + lc.length ≤ 1000000000000) ∨ (∃ k : Nat, n = .int .i64 k ∧ k ≤ N ∧ Rr wr b [] true ∧ Hid (itemsL textL N l1 = none) ∧ w.grownBy wr (some b))) (fun _ n _ => N - (intOf n).toNat)
    case atStart => exact .inl ⟨0, [], l1, rfl, Nat.zero_le _, OwnS.nil _ _, h1, by simp [Hid], hg1, by simp; omega⟩
    case round =>
      clear h1 hg1 H
      rcases hrel with ⟨k, xs, lc, rfl, hkN, hown, hR, hit, hg, hlen⟩ | ⟨k, rfl, hkN, hR, hit, hg⟩
      · obtain ⟨c0, c1⟩ := blk2' hR
        by_cases hk : k < N
        · have hstep : N - k = (N - (k + 1)) + 1 := by omega
          have hIn := hid (textRr_any b lc false wr hR (by intro h; cases h) (by omega))
          cases hf : textL lc with
          | none =>
            rw [hf] at hIn
            have hit2 := hid (show itemsL textL N l1 = none by rw [hit.out, hstep, itemsL]; simp only [hf]; rfl)
            clear hf hit hstep
            go_wp2_with fail
            refine hIn.out.mono ?_
            rintro e w3 ⟨rfl, h3, hg3⟩
            have hown3 := hown.keptb hg3 hbz
            have hg4 := grown_trans hg hg3
            have hsz := hg4.size
            clear hIn hown hR c0 c1
            go_wp2_with (at_builtin; refine wp_appS _ rfl (.tmp 20) (.tmp 23) rfl w.heap.size _ xs rfl (hown3.alloc _) _ _ [[]] rfl (cell1_newE _) (by simp; omega) (by simp; omega) ?_; intro v1 w5 ho1 hg5 hat1)
            have h5 : Rr w5 b [] true := Blk.grown (h3.alloc _) hg5 (fun e => by have := hown3.row b e.symm; omega)
            have hg6 := grown_far (grown_trans hg4 (grown_below ((Below.refl _ w3).alloc (Nat.le_refl _) _))) hg5 hown3.row
            go_wp2_with fail
            go_roundw
            case rel => exact .inr ⟨k + 1, by go_num, by omega, h5, hit2, hg6⟩
            case measure => (try simp [intOf]) <;> (try omega)
          | some y =>
            obtain ⟨z, lr⟩ := y
            rw [hf] at hIn
            have hless := (textL_less hf).1
            have hit2 := hid (show itemsL textL N l1 = (itemsL textL (N - (k + 1)) lr).map fun r => ((xs ++ [z]) ++ r.1, r.2) by rw [hit.out, hstep, itemsL]; simp only [hf, Option.map_map]; congr 1; funext r; simp)
            clear hf hit hstep
            go_wp2_with fail
            refine hIn.out.mono ?_
            rintro e w3 ⟨rfl, h3, hg3⟩
            have hown3 := hown.keptb hg3 hbz
            have hg4 := grown_trans hg hg3
            have hsz := hg4.size
            clear hIn hown hR c0 c1
            go_wp2_with (at_builtin; refine wp_appS _ rfl (.tmp 20) (.tmp 23) rfl w.heap.size _ xs rfl (hown3.alloc _) _ _ [z] rfl (cell1_newS _ _) (by simp; omega) (by simp; omega) ?_; intro v1 w5 ho1 hg5 hat1)
            have h5 : Rr w5 b lr false := Blk.grown (h3.alloc _) hg5 (fun e => by have := hown3.row b e.symm; omega)
            have hg6 := grown_far (grown_trans hg4 (grown_below ((Below.refl _ w3).alloc (Nat.le_refl _) _))) hg5 hown3.row
            go_wp2_with fail
            go_roundw
            case rel => exact .inl ⟨k + 1, xs ++ [z], lr, by go_num, by omega, ho1, h5, hit2, hg6, by simp; omega⟩
            case measure => (try simp [intOf]) <;> (try omega)
        · obtain rfl : k = N := by omega
          have hit2 : itemsL textL k l1 = some (xs, lc) := by rw [hit.out, Nat.sub_self]; simp [itemsL]
          clear hit
          have hcl := hid (closeR_any b lc false 93 wr hR (by omega))
          cases hc : cutL lc 93 with
          | none =>
            have ht2 := hid (show listL textL l = none by rw [ht.out, hit2]; simp [hc])
            rw [hc] at hcl
            clear hit2 hc
            go_wp2_with fail
            refine hcl.out.mono ?_
            rintro e w3 ⟨rfl, hg2, h3⟩
            clear c0 c1
            go_wp2_with fail
            go_ret
            rw [ht2.out]
            exact ⟨rfl, h3, grown_trans hg hg2⟩
          | some r =>
            have ht2 := hid (show listL textL l = some (xs, r) by rw [ht.out, hit2]; simp [hc])
            rw [hc] at hcl
            clear hit2 hc
            go_wp2_with fail
            refine hcl.out.mono ?_
            rintro e w3 ⟨rfl, hg2, h3⟩
            clear c0 c1
            go_wp2_with fail
            go_ret
            rw [ht2.out]
            exact ⟨_, rfl, hown.keptb hg2 hbz, h3, grown_trans hg hg2⟩
      · obtain ⟨c0, c1⟩ := blk2' hR
        have ht2 := hid (show listL textL l = none by rw [ht.out, hit.out])
        by_cases hk : (k : Int) < N
        all_goals
          go_wp2_with fail
          go_ret
          rw [ht2.out]
          exact ⟨rfl, hR, hg⟩
end Go.Proofs.YtjdblegmpmampaaDoor
