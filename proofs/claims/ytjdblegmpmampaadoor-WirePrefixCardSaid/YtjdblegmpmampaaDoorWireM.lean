/- Wire: the reader's lists of strings. -/
import Derived.Test.YtjdblegmpmampaaDoorWireK
set_option linter.unusedSimpArgs false
set_option linter.unusedVariables false
namespace Go.Proofs.YtjdblegmpmampaaDoor
open Go.RowKit Go.IntWalk

theorem infoStr : (Tryd.prog.info? 9).map (fun i => (i.zero, i.size, i.bytes)) = some (some (.string ⟨#[]⟩), 1, 16) := by kernel_rfl
def vS (s : List UInt8) : Value := .string (bs s)
/-- v is a slice of the call's own (blocks from base on) that holds the strings. -/
def OwnS (w : World) (base : Nat) (v : Value) (l : List (List UInt8)) : Prop := w.ownsRow base 9 1 v l.length (l.map vS)
theorem OwnS.nil (w : World) (base : Nat) : OwnS w base (.slice none 0 0) [] := ⟨rfl, .inl ⟨rfl, rfl⟩⟩
theorem OwnS.slr {w : World} {base : Nat} {v : Value} {l : List (List UInt8)} (h : OwnS w base v l) (hi : ∀ x ∈ l, x.length ≤ maxLen) : ∃ A c, v = .slice A l.length c ∧ l.length ≤ c ∧ c ≤ maxLen ∧ SlR w w.heap.size A (l.map bs) := by
  rcases h.2 with ⟨hv, hn⟩ | ⟨g, cap, cur, hv, _, hb, hc, hm, _⟩
  · have : l = [] := List.eq_nil_of_length_eq_zero hn
    subst this
    exact ⟨none, 0, hv, Nat.le_refl _, Nat.zero_le _, SlR.nil⟩
  · refine ⟨some ⟨g, 0, none⟩, cap, hv, hc, hm, fun k x hx => ⟨g, 0, [.string x], rfl, (Array.getElem?_eq_some_iff.1 hb).1, rfl, fun j u hu => ?_, rfl, ?_⟩⟩
    · match j, hu with
      | 0, hu =>
        simp only [List.getElem?_cons_zero, Option.some.injEq] at hu
        subst hu
        have hh := h
        unfold OwnS at hh
        rw [hv] at hh
        rw [List.getElem?_map] at hx
        have hk : k < l.length := by
          rcases Nat.lt_or_ge k l.length with h | h
          · exact h
          · rw [List.getElem?_eq_none h] at hx; cases hx
        have := hh.cellAt k (by omega)
        rw [List.getElem?_eq_getElem hk] at hx
        simp only [Option.map_some, Option.some.injEq] at hx
        subst hx
        simpa [Rep.size, hk, vS] using this
      | j+1, hu => simp at hu
    · obtain ⟨y, hy, rfl⟩ := List.mem_map.1 (List.mem_of_getElem? hx)
      rw [bs_size]
      exact hi y hy
theorem OwnS.keep {w w' : World} {base : Nat} {v : Value} {l : List (List UInt8)} (h : OwnS w base v l) (hk : ∀ k, k < w.heap.size → w'.heap[k]? = w.heap[k]?) : OwnS w' base v l := by
  refine ⟨h.1, ?_⟩
  rcases h.2 with h0 | ⟨g, cap, cur, hv, hg, hb, r⟩
  · exact .inl h0
  · exact .inr ⟨g, cap, cur, hv, hg, (hk g (Array.getElem?_eq_some_iff.1 hb).1).trans hb, r⟩
theorem OwnS.below {w w' : World} {base : Nat} {v : Value} {l : List (List UInt8)} (h : OwnS w base v l) (hb : Below w.heap.size w w') : OwnS w' base v l := h.keep hb.block
theorem OwnS.alloc {w : World} {base : Nat} {v : Value} {l : List (List UInt8)} (h : OwnS w base v l) (o : Obj) : OwnS (w.alloc o) base v l := h.below ((Below.refl _ _).alloc (Nat.le_refl _) o)
theorem OwnS.drew {w : World} {base : Nat} {v : Value} {l : List (List UInt8)} (h : OwnS w base v l) : OwnS w.drew base v l := h
section
variable {ops : Array Oper} {rest : List Oper} {o : Oper} {a : Act} {Q : Exit → Act → World → Prop}
/-- 'append(s, x...)' for strings: s of the call's own, the cells of x known. -/
theorem wp_appS (w : World) (hgd : o.guard = none) (s x : Operand) (ho : o.op = .call { callee := .builtin .append, args := #[s, x], argTypes := #[23, 23] })
    (base : Nat) (v : Value) (l : List (List UInt8)) (hs : a.eval s = v) (hown : OwnS w base v l) (ad : Addr) (c : Nat) (ys : List (List UInt8)) (hx : a.eval x = .slice (some ad) ys.length c)
    (hcell : ∀ (j : Nat) (u : Value), (ys.map vS)[j]? = some u → w.cell? (ad.add j) = some u) (hlen : l.length + ys.length ≤ 8796093022208) (hbase : base ≤ w.heap.size)
    (h : ∀ v' w', OwnS w' base v' (l ++ ys) → w.grownBy w' v.ownBlock → (v'.ownBlock = v.ownBlock ∨ v'.ownBlock = some w.heap.size) → wpList Tryd.prog ops Q rest (a.put o.dst v') w') : wpList Tryd.prog ops Q (o :: rest) a w := by
  obtain ⟨i0, hi, hz0, hz1, hz2⟩ := info_parts infoStr
  refine wpList_append_own_at w hgd s x 23 ho base 9 i0 _ 1 16 Tryd.underlying23 hi hz0 hz1 hz2 rfl (by omega) v l.length _ hs hown ad ys.length c (ys.map vS) hx (by simp) hcell (by intro y hy; obtain ⟨z, _, rfl⟩ := List.mem_map.1 hy; simp [vS, Value.oneCell']) (by unfold maxLen; omega) (by omega) hbase ?_
  intro v' w' h1 h2 _ h4
  refine h v' w' ?_ h2 h4
  unfold OwnS
  rw [List.length_append, List.map_append]
  exact h1
end
theorem cell1_newS (W : World) (x : List UInt8) : ∀ (j : Nat) (u : Value), ([x].map vS)[j]? = some u → (W.alloc (Obj.cells #[.string (bs x)] 9)).cell? ((⟨W.heap.size, 0, none⟩ : Addr).add j) = some u := by
  intro j u hu
  match j, hu with
  | 0, hu => simp at hu; subst hu; simp [Addr.add, go_sem, vS]
  | j + 1, hu => simp at hu
theorem cell1_newE (W : World) : ∀ (j : Nat) (u : Value), ([[]].map vS)[j]? = some u → (W.alloc (Obj.cells #[.string ⟨#[]⟩] 9)).cell? ((⟨W.heap.size, 0, none⟩ : Addr).add j) = some u := cell1_newS W []
theorem cutL_less {l r : List UInt8} {c : UInt8} (h : cutL l c = some r) : r.length < l.length := by
  cases l with
  | nil => simp [cutL] at h
  | cons x t =>
    simp only [cutL] at h
    split at h
    · injection h with h; subst h; simp
    · cases h
theorem textL_less {l : List UInt8} {s r : List UInt8} (h : textL l = some (s, r)) : r.length < l.length ∧ s.length ≤ l.length := by
  unfold textL at h
  split at h
  · cases h
  · rename_i n l1 hn
    have h1 := numL_less hn
    split at h
    · cases h
    · cases hc : cutL (l1.drop n.toNat) 44 with
      | none => rw [hc] at h; cases h
      | some q =>
        rw [hc] at h
        simp only [Option.map_some, Option.some.injEq, Prod.mk.injEq] at h
        obtain ⟨rfl, rfl⟩ := h
        have h2 := cutL_less hc
        simp only [List.length_drop] at h2
        simp only [List.length_take]
        omega
theorem OwnS.keptb {w w' : World} {base b : Nat} {v : Value} {l : List (List UInt8)} (h : OwnS w base v l) (hg : w.grownBy w' (some b)) (hb : b < base) : OwnS w' base v l := by
  refine ⟨h.1, ?_⟩
  rcases h.2 with h0 | ⟨g, cap, cur, hv, hgb, hbk, r⟩
  · exact .inl h0
  · exact .inr ⟨g, cap, cur, hv, hgb, (hg.block g (Array.getElem?_eq_some_iff.1 hbk).1 (by intro e; injection e with e; omega)).trans hbk, r⟩
theorem OwnS.row {w : World} {base : Nat} {v : Value} {l : List (List UInt8)} (h : OwnS w base v l) : ∀ k, v.ownBlock = some k → base ≤ k := by
  intro k hk
  rcases h.2 with ⟨rfl, _⟩ | ⟨g, cap, cur, rfl, hgb, _⟩
  · simp [Value.ownBlock] at hk
  · have : g = k := by simpa [Value.ownBlock] using hk
    omega
/-- A list's result. -/
def LsRes (w : World) (b : Nat) (r : Option (List (List UInt8) × List UInt8)) (e : Ending) (w' : World) : Prop :=
  match r with
  | some (xs, l) => ∃ v, e = .returned v ∧ OwnS w' w.heap.size v xs ∧ Rd w' b l false ∧ w.grownBy w' (some b)
  | none => e = .returned (.slice none 0 0) ∧ Rd w' b [] true ∧ w.grownBy w' (some b)

set_option maxHeartbeats 2000000 in
theorem itemsS_any (w0 : World) (he : Env w0) (b : Nat) (hb0 : w0.heap.size ≤ b) (l : List UInt8) (bad : Bool) (w : World) (hbw : Below w0.heap.size w0 w) (h : Rd w b l bad) (hbad : bad = true → l = []) (hl : l.length ≤ 1000000000000) :
    Calls Tryd.prog 52 #[.pointer (some ⟨b, 0, none⟩), .func (.func 25) #[.pointer (some ⟨b, 0, none⟩)] #[]] w (LsRes w b (listL textL l)) := by
  have H := hid (number_any b l bad 91 0 w h hl (he.below hbw))
  cases hr : numL l 91 0 with
  | none =>
    rw [hr] at H
    have ht := hid (show listL textL l = none by rw [listL, hr])
    clear hr
    go_enter Tryd.func52, Tryd.ntmps52
    go_wp2_with fail
    refine H.out.mono ?_
    rintro e w1 ⟨rfl, h1, hg1⟩
    go_wp2_with fail
    go_loopw [5, 6] (fun v n wr => v = .slice none 0 0 ∧ n = .int .i64 0 ∧ wr = w1) (fun _ _ _ => 0)
    case atStart => exact ⟨rfl, rfl, rfl⟩
    case round =>
      obtain ⟨rfl, rfl, rfl⟩ := hrel
      go_wp2_with fail
      refine (close_any b [] true 93 _ h1).mono ?_
      rintro e w2 ⟨rfl, hg2, h3⟩
      replace h3 : Rd w2 b [] true := h3
      obtain ⟨d0, d1⟩ := blk2' h3
      go_wp2_with fail
      go_ret
      rw [ht.out]
      exact ⟨rfl, h3, grown_trans hg1 hg2⟩
  | some x =>
    obtain ⟨v, l1⟩ := x
    rw [hr] at H
    obtain ⟨hl1, hv⟩ := numL_shorter hr
    have hbd := (numL_bd hr).bd
    have hnb : bad = false := by
      cases bad with
      | false => rfl
      | true => rw [hbad rfl] at hr; simp [numL, Lib.indexByte] at hr
    subst hnb
    obtain ⟨N, rfl⟩ : ∃ n : Nat, v = n := ⟨v.toNat, by omega⟩
    have ht := hid (show listL textL l = (match itemsL textL N l1 with
      | none => none
      | some (xs, l2) => (cutL l2 93).map fun r => (xs, r)) by rw [listL, hr]; simp only [Int.toNat_natCast]; cases itemsL textL N l1 <;> rfl)
    have hbz := h.lt
    clear hr
    go_enter Tryd.func52, Tryd.ntmps52
    go_wp2_with fail
    refine H.out.mono ?_
    rintro e w1 ⟨rfl, h1, hg1⟩
    go_wp2_with fail
    go_loopw [5, 6] (fun v n wr => (∃ (k : Nat) (xs : List (List UInt8)) (lc : List UInt8), n = .int .i64 k ∧ k ≤ N ∧ OwnS wr w.heap.size v xs ∧ Rd wr b lc false ∧ Hid (itemsL textL N l1 = (itemsL textL k lc).map fun r => (xs ++ r.1, r.2)) ∧ w.grownBy wr (some b) ∧ xs.length + lc.length ≤ 1000000000000) ∨ (∃ k : Nat, n = .int .i64 k ∧ k ≤ N ∧ Rd wr b [] true ∧ Hid (itemsL textL N l1 = none) ∧ w.grownBy wr (some b))) (fun _ n _ => (intOf n).toNat)
    case atStart => exact .inl ⟨N, [], l1, rfl, Nat.le_refl _, OwnS.nil _ _, h1, by simp [Hid], hg1, by simp; omega⟩
    case round =>
      clear h1 hg1 H
      rcases hrel with ⟨k, xs, lc, rfl, hkN, hown, hR, hit, hg, hlen⟩ | ⟨k, rfl, hkN, hR, hit, hg⟩
      · obtain ⟨c0, c1⟩ := blk2' hR
        by_cases hk : 0 < k
        · have hk' : (0 : Int) < k := by omega
          have hIn := hid (text_any b lc false wr hR (by intro h; cases h) (by omega) (he.below (hbw.grown hg hbw.size (fun j e => by injection e with e; omega))))
          obtain ⟨k', rfl⟩ : ∃ k', k = k' + 1 := ⟨k - 1, by omega⟩
          cases hf : textL lc with
          | none =>
            rw [hf] at hIn
            have hit2 := hid (show itemsL textL N l1 = none by rw [hit.out, itemsL]; simp only [hf]; rfl)
            clear hf hit
            go_wp2_with fail
            refine hIn.out.mono ?_
            rintro e w3 ⟨rfl, h3, hg3⟩
            have hown3 := hown.keptb hg3 hbz
            have hg4 := grown_trans hg hg3
            have hsz := hg4.size
            clear hIn hown hR c0 c1
            go_wp2_with (at_builtin; refine wp_appS _ rfl (.tmp 20) (.tmp 23) rfl w.heap.size _ xs rfl (hown3.alloc _) _ _ [[]] rfl (cell1_newE _) (by simp; omega) (by simp; omega) ?_; intro v1 w5 ho1 hg5 hat1)
            have h5 : Rd w5 b [] true := Blk.grown (h3.alloc _) hg5 (fun e => by have := hown3.row b e.symm; omega)
            have hg6 := grown_far (grown_trans hg4 (grown_below ((Below.refl _ w3).alloc (Nat.le_refl _) _))) hg5 hown3.row
            go_wp2_with fail
            go_roundw
            case rel => exact .inr ⟨k', by go_num, by omega, h5, hit2, hg6⟩
            case measure => (try simp [intOf]) <;> (try omega)
          | some y =>
            obtain ⟨z, lr⟩ := y
            rw [hf] at hIn
            have hless := (textL_less hf).1
            have hit2 := hid (show itemsL textL N l1 = (itemsL textL k' lr).map fun r => ((xs ++ [z]) ++ r.1, r.2) by
              rw [hit.out, itemsL]; simp only [hf, Option.map_map]
              congr 1; funext r; simp)
            clear hf hit
            go_wp2_with fail
            refine hIn.out.mono ?_
            rintro e w3 ⟨rfl, h3, hg3⟩
            have hown3 := hown.keptb hg3 hbz
            have hg4 := grown_trans hg hg3
            have hsz := hg4.size
            clear hIn hown hR c0 c1
            go_wp2_with (at_builtin; refine wp_appS _ rfl (.tmp 20) (.tmp 23) rfl w.heap.size _ xs rfl (hown3.alloc _) _ _ [z] rfl (cell1_newS _ _) (by simp; omega) (by simp; omega) ?_; intro v1 w5 ho1 hg5 hat1)
            have h5 : Rd w5 b lr false := Blk.grown (h3.alloc _) hg5 (fun e => by have := hown3.row b e.symm; omega)
            have hg6 := grown_far (grown_trans hg4 (grown_below ((Below.refl _ w3).alloc (Nat.le_refl _) _))) hg5 hown3.row
            go_wp2_with fail
            go_roundw
            case rel => exact .inl ⟨k', xs ++ [z], lr, by go_num, by omega, ho1, h5, hit2, hg6, by simp; omega⟩
            case measure => (try simp [intOf]) <;> (try omega)
        · obtain rfl : k = 0 := by omega
          have hit2 : itemsL textL N l1 = some (xs, lc) := by rw [hit.out]; simp [itemsL]
          clear hit
          cases hc : cutL lc 93 with
          | none =>
            have ht2 := hid (show listL textL l = none by rw [ht.out, hit2]; simp [hc])
            have hcl := hid (close_any b lc false 93 wr hR)
            rw [hc] at hcl
            clear hit2 hc
            go_wp2_with fail
            refine hcl.out.mono ?_
            rintro e w3 ⟨rfl, hg2, h3⟩
            replace h3 : Rd w3 b [] true := h3
            obtain ⟨d0, d1⟩ := blk2' h3
            clear c0 c1
            go_wp2_with fail
            go_ret
            rw [ht2.out]
            exact ⟨rfl, h3, grown_trans hg hg2⟩
          | some r =>
            have ht2 := hid (show listL textL l = some (xs, r) by rw [ht.out, hit2]; simp [hc])
            have hcl := hid (close_any b lc false 93 wr hR)
            rw [hc] at hcl
            clear hit2 hc
            go_wp2_with fail
            refine hcl.out.mono ?_
            rintro e w3 ⟨rfl, hg2, h3⟩
            replace h3 : Rd w3 b r false := h3
            obtain ⟨d0, d1⟩ := blk2' h3
            clear c0 c1
            go_wp2_with fail
            go_ret
            rw [ht2.out]
            exact ⟨_, rfl, hown.keptb hg2 hbz, h3, grown_trans hg hg2⟩
      · obtain ⟨c0, c1⟩ := blk2' hR
        have ht2 := hid (show listL textL l = none by rw [ht.out, hit.out])
        by_cases hk : (0 : Int) < k
        · go_wp2_with fail
          refine (close_any b [] true 93 _ hR).mono ?_
          rintro e w3 ⟨rfl, hg2, h3⟩
          replace h3 : Rd w3 b [] true := h3
          obtain ⟨d0, d1⟩ := blk2' h3
          clear c0 c1
          go_wp2_with fail
          go_ret
          rw [ht2.out]
          exact ⟨rfl, h3, grown_trans hg hg2⟩
        · go_wp2_with fail
          refine (close_any b [] true 93 _ hR).mono ?_
          rintro e w3 ⟨rfl, hg2, h3⟩
          replace h3 : Rd w3 b [] true := h3
          obtain ⟨d0, d1⟩ := blk2' h3
          clear c0 c1
          go_wp2_with fail
          go_ret
          rw [ht2.out]
          exact ⟨rfl, h3, grown_trans hg hg2⟩
end Go.Proofs.YtjdblegmpmampaaDoor
