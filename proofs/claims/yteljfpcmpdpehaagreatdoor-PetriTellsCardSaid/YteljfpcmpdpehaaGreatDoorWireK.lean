
/- Wire: the reader's lists of ints. -/
import Derived.Test.YteljfpcmpdpehaaGreatDoorWireQ
import Derived.Test.YteljfpcmpdpehaaGreatDoorMem
set_option linter.unusedSimpArgs false
set_option linter.unusedVariables false
namespace Go.Proofs.YteljfpcmpdpehaaGreatDoor
open Go.RowKit Go.IntWalk

theorem cell1_newK (W : World) (x : Int) : ∀ (j : Nat) (u : Value), ([x].map (Value.int .i64))[j]? = some u → (W.alloc (Obj.cells #[.int .i64 x] 3)).cell? ((⟨W.heap.size, 0, none⟩ : Addr).add j) = some u := by
  intro j u hu
  match j, hu with
  | 0, hu => simp at hu; subst hu; simp [Addr.add, go_sem]
  | j + 1, hu => simp at hu
theorem numL_less {l : List UInt8} {c : UInt8} {m v : Int} {r : List UInt8} (h : numL l c m = some (v, r)) : r.length < l.length := by
  unfold numL at h
  split at h
  · cases h
  · rename_i h0
    have hi := indexByte_lt (l.take 21) c (by omega)
    split at h
    · split at h
      · injection h with h
        injection h with h1 h2
        subst h2
        have : (l.take 21).length ≤ l.length := by simp; omega
        simp only [List.length_drop]
        omega
      · cases h
    · cases h
theorem numL_bd {l : List UInt8} {c : UInt8} {m v : Int} {r : List UInt8} (h : numL l c m = some (v, r)) : I64 v := by
  unfold numL at h
  split at h
  · cases h
  · split at h
    · rename_i hat
      split at h
      · injection h with h
        injection h with h1 h2
        subst h1
        exact Lib.atoiAll_bounds hat
      · cases h
    · cases h
theorem OwnI.keptb {w w' : World} {base b : Nat} {v : Value} {l : List Int} (h : OwnI w base v l) (hg : w.grownBy w' (some b)) (hb : b < base) : OwnI w' base v l := by
  refine ⟨h.1, ?_⟩
  rcases h.2 with h0 | ⟨g, cap, cur, hv, hgb, hbk, r⟩
  · exact .inl h0
  · exact .inr ⟨g, cap, cur, hv, hgb, (hg.block g (Array.getElem?_eq_some_iff.1 hbk).1 (by intro e; injection e with e; omega)).trans hbk, r⟩
theorem OwnI.row {w : World} {base : Nat} {v : Value} {l : List Int} (h : OwnI w base v l) : ∀ k, v.ownBlock = some k → base ≤ k := by
  intro k hk
  rcases h.2 with ⟨rfl, _⟩ | ⟨g, cap, cur, rfl, hgb, _⟩
  · simp [Value.ownBlock] at hk
  · have : g = k := by simpa [Value.ownBlock] using hk
    omega
theorem grown_far {w w1 w2 : World} {r row : Option Nat} (h : w.grownBy w1 r) (h2 : w1.grownBy w2 row) (hr : ∀ k, row = some k → w.heap.size ≤ k) : w.grownBy w2 r :=
  ⟨h2.os.trans h.os, h2.tape.trans h.tape, h2.output.trans h.output, Nat.le_trans h.size h2.size, fun k hk hne => (h2.block k (Nat.lt_of_lt_of_le hk h.size) (fun e => by have := hr k e.symm; omega)).trans (h.block k hk hne)⟩
/-- A list's result. -/
def LiRes (w : World) (b : Nat) (r : Option (List Int × List UInt8)) (e : Ending) (w' : World) : Prop :=
  match r with
  | some (xs, l) => ∃ v, e = .returned v ∧ OwnI w' w.heap.size v xs ∧ Rd w' b l false ∧ w.grownBy w' (some b)
  | none => e = .returned (.slice none 0 0) ∧ Rd w' b [] true ∧ w.grownBy w' (some b)
abbrev fI : List UInt8 → Option (Int × List UInt8) := fun l => numL l 59 (-9223372036854775808)

set_option maxRecDepth 100000 in
set_option maxHeartbeats 2000000 in
theorem itemsI_any (w0 : World) (he : Env w0) (b : Nat) (hb0 : w0.heap.size ≤ b) (l : List UInt8) (bad : Bool) (w : World) (hbw : Below w0.heap.size w0 w) (h : Rd w b l bad) (hbad : bad = true → l = []) (hl : l.length ≤ 1000000000000) :
    Calls Tryz.prog 77 #[.pointer (some ⟨b, 0, none⟩), .func (.func 35) #[.pointer (some ⟨b, 0, none⟩)] #[]] w (LiRes w b (listL fI l)) := by
  have H := hid (number_any b l bad 91 0 w h hl (he.below hbw))
  cases hr : numL l 91 0 with
  | none =>
    rw [hr] at H
    have ht := hid (show listL fI l = none by rw [listL, hr])
    clear hr
    go_enter Tryz.func77, Tryz.ntmps77
    go_wp2_with fail
    refine H.out.mono ?_
    rintro e w1 ⟨rfl, h1, hg1⟩
    go_wp2_with fail
    go_loopw [5, 6] (fun v n wr => v = .slice none 0 0 ∧ n = .int .i64 0 ∧ wr = w1) (fun _ _ _ => 0)
    case atStart => exact ⟨rfl, rfl, rfl⟩
    case round =>
      obtain ⟨rfl, rfl, rfl⟩ := hrel
      go_wp2_with fail
      refine (close_any b [] true 93 _ h1).mono ?_
      rintro e w2 ⟨rfl, hg2, h3⟩
      replace h3 : Rd w2 b [] true := h3
      obtain ⟨d0, d1⟩ := blk2' h3
      go_wp2_with fail
      go_ret
      rw [ht.out]
      exact ⟨rfl, h3, grown_trans hg1 hg2⟩
  | some x =>
    obtain ⟨v, l1⟩ := x
    rw [hr] at H
    obtain ⟨hl1, hv⟩ := numL_shorter hr
    have hbd := (numL_bd hr).bd
    have hnb : bad = false := by
      cases bad with
      | false => rfl
      | true => rw [hbad rfl] at hr; simp [numL, Lib.indexByte] at hr
    subst hnb
    obtain ⟨N, rfl⟩ : ∃ n : Nat, v = n := ⟨v.toNat, by omega⟩
    have ht := hid (show listL fI l = (match itemsL fI N l1 with
      | none => none
      | some (xs, l2) => (cutL l2 93).map fun r => (xs, r)) by rw [listL, hr]; simp only [Int.toNat_natCast]; cases itemsL fI N l1 <;> rfl)
    have hbz := h.lt
    clear hr
    go_enter Tryz.func77, Tryz.ntmps77
    go_wp2_with fail
    refine H.out.mono ?_
    rintro e w1 ⟨rfl, h1, hg1⟩
    go_wp2_with fail
    go_loopw [5, 6] (fun v n wr => (∃ (k : Nat) (xs : List Int) (lc : List UInt8), n = .int .i64 k ∧ k ≤ N ∧ OwnI wr w.heap.size v xs ∧ Rd wr b lc false ∧ Hid (itemsL fI N l1 = (itemsL fI k lc).map fun r => (xs ++ r.1, r.2)) ∧ w.grownBy wr (some b) ∧ xs.length + lc.length ≤ 1000000000000) ∨ (∃ k : Nat, n = .int .i64 k ∧ k ≤ N ∧ Rd wr b [] true ∧ Hid (itemsL fI N l1 = none) ∧ w.grownBy wr (some b))) (fun _ n _ => (intOf n).toNat)
    case atStart => exact .inl ⟨N, [], l1, rfl, Nat.le_refl _, OwnI.nil _ _, h1, by simp [Hid], hg1, by simp; omega⟩
    case round =>
      clear h1 hg1 H
      rcases hrel with ⟨k, xs, lc, rfl, hkN, hown, hR, hit, hg, hlen⟩ | ⟨k, rfl, hkN, hR, hit, hg⟩
      · obtain ⟨c0, c1⟩ := blk2' hR
        by_cases hk : 0 < k
        · have hk' : (0 : Int) < k := by omega
          have hIn := hid (int_any b lc false wr hR (by omega) (he.below (hbw.grown hg hbw.size (fun j e => by injection e with e; omega))))
          obtain ⟨k', rfl⟩ : ∃ k', k = k' + 1 := ⟨k - 1, by omega⟩
          cases hf : numL lc 59 (-9223372036854775808) with
          | none =>
            rw [hf] at hIn
            have hit2 := hid (show itemsL fI N l1 = none by rw [hit.out, itemsL]; simp only [fI, hf]; rfl)
            clear hf hit
            go_wp2_with fail
            refine hIn.out.mono ?_
            rintro e w3 ⟨rfl, h3, hg3⟩
            have hown3 := hown.keptb hg3 hbz
            have hg4 := grown_trans hg hg3
            have hsz := hg4.size
            clear hIn hown hR c0 c1
            go_wp2_with (at_builtin; refine wp_appI _ rfl (.tmp 20) (.tmp 23) rfl w.heap.size _ xs rfl (hown3.alloc _) _ _ [0] rfl (cell1_newK _ _) (by simp; omega) (by simp; omega) ?_; intro v1 w5 ho1 hg5 hat1)
            have h5 : Rd w5 b [] true := Blk.grown (h3.alloc _) hg5 (fun e => by have := hown3.row b e.symm; omega)
            have hg6 := grown_far (grown_trans hg4 (grown_below ((Below.refl _ w3).alloc (Nat.le_refl _) _))) hg5 hown3.row
            go_wp2_with fail
            go_roundw
            case rel => exact .inr ⟨k', by go_num, by omega, h5, hit2, hg6⟩
            case measure => (try simp [intOf]) <;> (try omega)
          | some y =>
            obtain ⟨z, lr⟩ := y
            rw [hf] at hIn
            have hless := numL_less hf
            have hit2 := hid (show itemsL fI N l1 = (itemsL fI k' lr).map fun r => ((xs ++ [z]) ++ r.1, r.2) by
              rw [hit.out, itemsL]; simp only [fI, hf, Option.map_map]
              congr 1; funext r; simp)
            clear hf hit
            go_wp2_with fail
            refine hIn.out.mono ?_
            rintro e w3 ⟨rfl, h3, hg3⟩
            have hown3 := hown.keptb hg3 hbz
            have hg4 := grown_trans hg hg3
            have hsz := hg4.size
            clear hIn hown hR c0 c1
            go_wp2_with (at_builtin; refine wp_appI _ rfl (.tmp 20) (.tmp 23) rfl w.heap.size _ xs rfl (hown3.alloc _) _ _ [z] rfl (cell1_newK _ _) (by simp; omega) (by simp; omega) ?_; intro v1 w5 ho1 hg5 hat1)
            have h5 : Rd w5 b lr false := Blk.grown (h3.alloc _) hg5 (fun e => by have := hown3.row b e.symm; omega)
            have hg6 := grown_far (grown_trans hg4 (grown_below ((Below.refl _ w3).alloc (Nat.le_refl _) _))) hg5 hown3.row
            go_wp2_with fail
            go_roundw
            case rel => exact .inl ⟨k', xs ++ [z], lr, by go_num, by omega, ho1, h5, hit2, hg6, by simp; omega⟩
            case measure => (try simp [intOf]) <;> (try omega)
        · obtain rfl : k = 0 := by omega
          have hit2 : itemsL fI N l1 = some (xs, lc) := by rw [hit.out]; simp [itemsL]
          clear hit
          cases hc : cutL lc 93 with
          | none =>
            have ht2 := hid (show listL fI l = none by rw [ht.out, hit2]; simp [hc])
            have hcl := hid (close_any b lc false 93 wr hR)
            rw [hc] at hcl
            clear hit2 hc
            go_wp2_with fail
            refine hcl.out.mono ?_
            rintro e w3 ⟨rfl, hg2, h3⟩
            replace h3 : Rd w3 b [] true := h3
            obtain ⟨d0, d1⟩ := blk2' h3
            clear c0 c1
            go_wp2_with fail
            go_ret
            rw [ht2.out]
            exact ⟨rfl, h3, grown_trans hg hg2⟩
          | some r =>
            have ht2 := hid (show listL fI l = some (xs, r) by rw [ht.out, hit2]; simp [hc])
            have hcl := hid (close_any b lc false 93 wr hR)
            rw [hc] at hcl
            clear hit2 hc
            go_wp2_with fail
            refine hcl.out.mono ?_
            rintro e w3 ⟨rfl, hg2, h3⟩
            replace h3 : Rd w3 b r false := h3
            obtain ⟨d0, d1⟩ := blk2' h3
            clear c0 c1
            go_wp2_with fail
            go_ret
            rw [ht2.out]
            exact ⟨_, rfl, hown.keptb hg2 hbz, h3, grown_trans hg hg2⟩
      · obtain ⟨c0, c1⟩ := blk2' hR
        have ht2 := hid (show listL fI l = none by rw [ht.out, hit.out])
        by_cases hk : (0 : Int) < k
        · go_wp2_with fail
          refine (close_any b [] true 93 _ hR).mono ?_
          rintro e w3 ⟨rfl, hg2, h3⟩
          replace h3 : Rd w3 b [] true := h3
          obtain ⟨d0, d1⟩ := blk2' h3
          clear c0 c1
          go_wp2_with fail
          go_ret
          rw [ht2.out]
          exact ⟨rfl, h3, grown_trans hg hg2⟩
        · go_wp2_with fail
          refine (close_any b [] true 93 _ hR).mono ?_
          rintro e w3 ⟨rfl, hg2, h3⟩
          replace h3 : Rd w3 b [] true := h3
          obtain ⟨d0, d1⟩ := blk2' h3
          clear c0 c1
          go_wp2_with fail
          go_ret
          rw [ht2.out]
          exact ⟨rfl, h3, grown_trans hg hg2⟩
end Go.Proofs.YteljfpcmpdpehaaGreatDoor
