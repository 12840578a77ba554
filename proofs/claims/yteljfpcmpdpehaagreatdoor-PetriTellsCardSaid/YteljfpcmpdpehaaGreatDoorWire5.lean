
/- Wire: the reference's Num, Int, Text, Nums, Texts. -/
import Derived.Test.YteljfpcmpdpehaaGreatDoorWire4
set_option linter.unusedSimpArgs false
set_option linter.unusedVariables false
namespace Go.Proofs.YteljfpcmpdpehaaGreatDoor
open Go.RowKit Go.IntWalk

theorem numL_zero (l : List UInt8) (en : UInt8) : numL l en 0 = match numL l en (-9223372036854775808) with
    | some (v, r) => if v < 0 then none else some (v, r)
    | none => none := by
  unfold numL
  split
  · rfl
  · cases h : Lib.atoiAll ((l.take 21).take (Lib.indexByte (l.take 21) en).toNat) with
    | ok v =>
      have hb := Lib.atoiAll_bounds h
      simp only
      by_cases h1 : Lib.itoa v = (l.take 21).take (Lib.indexByte (l.take 21) en).toNat
      · by_cases h2 : v < 0
        · rw [if_neg (by omega), if_pos ⟨h1, hb.1⟩]; simp [h2]
        · rw [if_pos ⟨h1, by omega⟩, if_pos ⟨h1, hb.1⟩]; simp [h2]
      · rw [if_neg (fun h => h1 h.1), if_neg (fun h => h1 h.1)]
    | _ => rfl
set_option maxRecDepth 100000 in
set_option maxHeartbeats 1000000 in
theorem numberR_any (b : Nat) (l : List UInt8) (bad : Bool) (en : UInt8) (hen : 57 < en.toNat) (w : World) (h : Rr w b l bad) (hl : l.length ≤ 1000000000000) :
    Calls Tryz.prog 79 #[.pointer (some ⟨b, 0, none⟩), .int .u8 en.toNat] w (RrRes w b bad (numL l en 0)) := by
  have H := hid (aheadR_any b l bad en hen w h hl)
  have hz := hid (numL_zero l en)
  cases hr : numL l en (-9223372036854775808) with
  | none =>
    rw [hr] at H hz
    go_enter Tryz.func79, Tryz.ntmps79
    go_wp2_with fail
    refine H.out.mono ?_
    rintro e w1 ⟨rfl, h1, hg⟩
    go_wp2_with fail
    go_ret
    exact rrRes_none hz.out rfl h1 hg
  | some x =>
    obtain ⟨v, r⟩ := x
    rw [hr] at H hz
    have hv := (numL_bd hr).bd
    clear hr
    by_cases hn : v < 0
    · have hz2 := hid (show numL l en 0 = none by rw [hz.out]; simp [hn])
      go_enter Tryz.func79, Tryz.ntmps79
      go_wp2_with fail
      refine H.out.mono ?_
      rintro e w1 ⟨rfl, h1, hg⟩
      go_wp2_with fail
      refine (failR_any _ _ _ _ h1).mono ?_
      rintro e w2 ⟨rfl, h2, hg2⟩
      go_wp2_with fail
      go_ret
      exact rrRes_none hz2.out rfl h2 (grown_trans hg hg2)
    · have hz2 := hid (show numL l en 0 = some (v, r) by rw [hz.out]; simp [hn])
      go_enter Tryz.func79, Tryz.ntmps79
      go_wp2_with fail
      refine H.out.mono ?_
      rintro e w1 ⟨rfl, h1, hg⟩
      go_wp2_with fail
      go_ret
      rw [hz2.out]
      exact ⟨rfl, h1, hg⟩
set_option maxRecDepth 100000 in
set_option maxHeartbeats 400000 in
theorem numRr_any (b : Nat) (l : List UInt8) (bad : Bool) (w : World) (h : Rr w b l bad) (hl : l.length ≤ 1000000000000) :
    Calls Tryz.prog 42 #[.pointer (some ⟨b, 0, none⟩)] w (RrRes w b bad (numL l 59 0)) := by
  have H := hid (numberR_any b l bad 59 (by decide) w h hl)
  cases hr : numL l 59 0 with
  | none =>
    rw [hr] at H
    go_enter Tryz.func42, Tryz.ntmps42
    go_wp2_with fail
    refine H.out.mono ?_
    rintro e w1 ⟨rfl, h1, h2⟩
    go_wp2_with fail
    go_ret
    exact ⟨rfl, h1, h2⟩
  | some x =>
    obtain ⟨v, l'⟩ := x
    rw [hr] at H
    go_enter Tryz.func42, Tryz.ntmps42
    go_wp2_with fail
    refine H.out.mono ?_
    rintro e w1 ⟨rfl, h1, h2⟩
    go_wp2_with fail
    go_ret
    exact ⟨rfl, h1, h2⟩
set_option maxRecDepth 100000 in
set_option maxHeartbeats 400000 in
theorem intRr_any (b : Nat) (l : List UInt8) (bad : Bool) (w : World) (h : Rr w b l bad) (hl : l.length ≤ 1000000000000) :
    Calls Tryz.prog 41 #[.pointer (some ⟨b, 0, none⟩)] w (RrRes w b bad (numL l 59 (-9223372036854775808))) := by
  have H := hid (aheadR_any b l bad 59 (by decide) w h hl)
  cases hr : numL l 59 (-9223372036854775808) with
  | none =>
    rw [hr] at H
    go_enter Tryz.func41, Tryz.ntmps41
    go_wp2_with fail
    refine H.out.mono ?_
    rintro e w1 ⟨rfl, h1, h2⟩
    go_wp2_with fail
    go_ret
    exact ⟨rfl, h1, h2⟩
  | some x =>
    obtain ⟨v, l'⟩ := x
    rw [hr] at H
    go_enter Tryz.func41, Tryz.ntmps41
    go_wp2_with fail
    refine H.out.mono ?_
    rintro e w1 ⟨rfl, h1, h2⟩
    go_wp2_with fail
    go_ret
    exact ⟨rfl, h1, h2⟩
def TrRes (w : World) (b : Nat) (r : Option (List UInt8 × List UInt8)) (e : Ending) (w' : World) : Prop :=
  match r with
  | some (s, l) => e = .returned (.string (bs s)) ∧ Rr w' b l false ∧ w.grownBy w' (some b)
  | none => e = .returned (.string ⟨#[]⟩) ∧ Rr w' b [] true ∧ w.grownBy w' (some b)
theorem trRes_none {w w' : World} {b : Nat} {r : Option (List UInt8 × List UInt8)} {e : Ending} (hr : r = none) (he : e = .returned (.string ⟨#[]⟩)) (h1 : Rr w' b [] true) (h2 : w.grownBy w' (some b)) : TrRes w b r e w' := by
  subst hr; exact ⟨he, h1, h2⟩
def LrI (w : World) (b : Nat) (r : Option (List Int × List UInt8)) (e : Ending) (w' : World) : Prop :=
  match r with
  | some (xs, l) => ∃ v, e = .returned v ∧ OwnI w' w.heap.size v xs ∧ Rr w' b l false ∧ w.grownBy w' (some b)
  | none => e = .returned (.slice none 0 0) ∧ Rr w' b [] true ∧ w.grownBy w' (some b)
set_option maxRecDepth 100000 in
set_option maxHeartbeats 2000000 in
theorem numsRr_any (b : Nat) (l : List UInt8) (bad : Bool) (w : World) (h : Rr w b l bad) (hbad : bad = true → l = []) (hl : l.length ≤ 1000000000000) :
    Calls Tryz.prog 44 #[.pointer (some ⟨b, 0, none⟩)] w (LrI w b (listL fI l)) := by
  have H := hid (numberR_any b l bad 91 (by decide) w h hl)
  cases hr : numL l 91 0 with
  | none =>
    rw [hr] at H
    have ht := hid (show listL fI l = none by rw [listL, hr])
    clear hr
    go_enter Tryz.func44, Tryz.ntmps44
    go_wp2_with fail
    refine H.out.mono ?_
    rintro e w1 ⟨rfl, h1, hg1⟩
    obtain ⟨d0, d1⟩ := blk2' h1
    go_wp2_with fail
    go_loopw [4, 5] (fun v n wr => v = .slice none 0 0 ∧ n = .int .i64 0 ∧ wr = w1) (fun _ _ _ => 0)
    case atStart => exact ⟨rfl, rfl, rfl⟩
    case round =>
      obtain ⟨rfl, rfl, rfl⟩ := hrel
      go_wp2_with fail
      go_ret
      rw [ht.out]
      exact ⟨rfl, h1, hg1⟩
  | some x =>
    obtain ⟨v, l1⟩ := x
    rw [hr] at H
    obtain ⟨hl1, hv⟩ := numL_shorter hr
    have hbd := (numL_bd hr).bd
    have hnb : bad = false := by
      cases bad with
      | false => rfl
      | true => rw [hbad rfl] at hr; simp [numL, Lib.indexByte] at hr
    subst hnb
    obtain ⟨N, rfl⟩ : ∃ n : Nat, v = n := ⟨v.toNat, by omega⟩
    have ht := hid (show listL fI l = (match itemsL fI N l1 with
      | none => none
      | some (xs, l2) => (cutL l2 93).map fun r => (xs, r)) by rw [listL, hr]; simp only [Int.toNat_natCast]; cases itemsL fI N l1 <;> rfl)
    have hbz := h.lt
    clear hr
    go_enter Tryz.func44, Tryz.ntmps44
    go_wp2_with fail
    refine H.out.mono ?_
    rintro e w1 ⟨rfl, h1, hg1⟩
    go_wp2_with fail
    go_loopw [4, 5] (fun v n wr => (∃ (k : Nat) (xs : List Int) (lc : List UInt8), n = .int .i64 k ∧ k ≤ N ∧ OwnI wr w.heap.size v xs ∧ Rr wr b lc false ∧ Hid (itemsL fI N l1 = (itemsL fI (N - k) lc).map fun r => (xs ++ r.1, r.2)) ∧ w.grownBy wr (some b) ∧ xs.length + lc.length ≤ 1000000000000) ∨ (∃ k : Nat, n = .int .i64 k ∧ k ≤ N ∧ Rr wr b [] true ∧ Hid (itemsL fI N l1 = none) ∧ w.grownBy wr (some b))) (fun _ n _ => N - (intOf n).toNat)
    case atStart => exact .inl ⟨0, [], l1, rfl, Nat.zero_le _, OwnI.nil _ _, h1, by simp [Hid], hg1, by simp; omega⟩
    case round =>
      clear h1 hg1 H
      rcases hrel with ⟨k, xs, lc, rfl, hkN, hown, hR, hit, hg, hlen⟩ | ⟨k, rfl, hkN, hR, hit, hg⟩
      · obtain ⟨c0, c1⟩ := blk2' hR
        by_cases hk : k < N
        · have hstep : N - k = (N - (k + 1)) + 1 := by omega
          have hIn := hid (intRr_any b lc false wr hR (by omega))
          cases hf : numL lc 59 (-9223372036854775808) with
          | none =>
            rw [hf] at hIn
            have hit2 := hid (show itemsL fI N l1 = none by rw [hit.out, hstep, itemsL]; simp only [fI, hf]; rfl)
            clear hf hit hstep
            go_wp2_with fail
            refine hIn.out.mono ?_
            rintro e w3 ⟨rfl, h3, hg3⟩
            have hown3 := hown.keptb hg3 hbz
            have hg4 := grown_trans hg hg3
            have hsz := hg4.size
            clear hIn hown hR c0 c1
            go_wp2_with (at_builtin; refine wp_appI _ rfl (.tmp 20) (.tmp 23) rfl w.heap.size _ xs rfl (hown3.alloc _) _ _ [0] rfl (cell1_newK _ _) (by simp; omega) (by simp; omega) ?_; intro v1 w5 ho1 hg5 hat1)
            have h5 : Rr w5 b [] true := Blk.grown (h3.alloc _) hg5 (fun e => by have := hown3.row b e.symm; omega)
            have hg6 := grown_far (grown_trans hg4 (grown_below ((Below.refl _ w3).alloc (Nat.le_refl _) _))) hg5 hown3.row
            go_wp2_with fail
            go_roundw
            case rel => exact .inr ⟨k + 1, by go_num, by omega, h5, hit2, hg6⟩
            case measure => (try simp [intOf]) <;> (try omega)
          | some y =>
            obtain ⟨z, lr⟩ := y
            rw [hf] at hIn
            have hless := numL_less hf
            have hit2 := hid (show itemsL fI N l1 = (itemsL fI (N - (k + 1)) lr).map fun r => ((xs ++ [z]) ++ r.1, r.2) by rw [hit.out, hstep, itemsL]; simp only [fI, hf, Option.map_map]; congr 1; funext r; simp)
            clear hf hit hstep
            go_wp2_with fail
            refine hIn.out.mono ?_
            rintro e w3 ⟨rfl, h3, hg3⟩
            have hown3 := hown.keptb hg3 hbz
            have hg4 := grown_trans hg hg3
            have hsz := hg4.size
            clear hIn hown hR c0 c1
            go_wp2_with (at_builtin; refine wp_appI _ rfl (.tmp 20) (.tmp 23) rfl w.heap.size _ xs rfl (hown3.alloc _) _ _ [z] rfl (cell1_newK _ _) (by simp; omega) (by simp; omega) ?_; intro v1 w5 ho1 hg5 hat1)
            have h5 : Rr w5 b lr false := Blk.grown (h3.alloc _) hg5 (fun e => by have := hown3.row b e.symm; omega)
            have hg6 := grown_far (grown_trans hg4 (grown_below ((Below.refl _ w3).alloc (Nat.le_refl _) _))) hg5 hown3.row
            go_wp2_with fail
            go_roundw
            case rel => exact .inl ⟨k + 1, xs ++ [z], lr, by go_num, by omega, ho1, h5, hit2, hg6, by simp; omega⟩
            case measure => (try simp [intOf]) <;> (try omega)
        · obtain rfl : k = N := by omega
          have hit2 : itemsL fI k l1 = some (xs, lc) := by rw [hit.out, Nat.sub_self]; simp [itemsL]
          clear hit
          have hcl := hid (closeR_any b lc false 93 wr hR (by omega))
          cases hc : cutL lc 93 with
          | none =>
            have ht2 := hid (show listL fI l = none by rw [ht.out, hit2]; simp [hc])
            rw [hc] at hcl
            clear hit2 hc
            go_wp2_with fail
            refine hcl.out.mono ?_
            rintro e w3 ⟨rfl, hg2, h3⟩
            clear c0 c1
            go_wp2_with fail
            go_ret
            rw [ht2.out]
            exact ⟨rfl, h3, grown_trans hg hg2⟩
          | some r =>
            have ht2 := hid (show listL fI l = some (xs, r) by rw [ht.out, hit2]; simp [hc])
            rw [hc] at hcl
            clear hit2 hc
            go_wp2_with fail
            refine hcl.out.mono ?_
            rintro e w3 ⟨rfl, hg2, h3⟩
            clear c0 c1
            go_wp2_with fail
            go_ret
            rw [ht2.out]
            exact ⟨_, rfl, hown.keptb hg2 hbz, h3, grown_trans hg hg2⟩
      · obtain ⟨c0, c1⟩ := blk2' hR
        have ht2 := hid (show listL fI l = none by rw [ht.out, hit.out])
        by_cases hk : (k : Int) < N
        all_goals
          go_wp2_with fail
          go_ret
          rw [ht2.out]
          exact ⟨rfl, hR, hg⟩
def LrS (w : World) (b : Nat) (r : Option (List (List UInt8) × List UInt8)) (e : Ending) (w' : World) : Prop :=
  match r with
  | some (xs, l) => ∃ v, e = .returned v ∧ OwnS w' w.heap.size v xs ∧ Rr w' b l false ∧ w.grownBy w' (some b)
  | none => e = .returned (.slice none 0 0) ∧ Rr w' b [] true ∧ w.grownBy w' (some b)
end Go.Proofs.YteljfpcmpdpehaaGreatDoor
