
/- Stock: lists that are equal; Expired. -/
import Derived.Test.YtfpehakllnkaeaaGreatDoorStkO
set_option linter.unusedSimpArgs false
set_option linter.unusedVariables false
namespace Go.Proofs.YtfpehakllnkaeaaGreatDoor
open Go.RowKit Go.IntWalk

theorem take_snoc_eq {α : Type} {l m : List α} {k : Nat} (hl : k < l.length) (hm : k < m.length) (h : l.take k = m.take k) (he : l[k] = m[k]) : l.take (k + 1) = m.take (k + 1) := by
  rw [List.take_add_one, List.take_add_one, List.getElem?_eq_getElem hl, List.getElem?_eq_getElem hm, h, he]
theorem take_snoc_ne {α : Type} {l m : List α} {k : Nat} (hl : k < l.length) (hm : k < m.length) (he : l[k] ≠ m[k]) : l ≠ m := fun e => he (by subst e; rfl)
set_option maxRecDepth 100000 in
set_option maxHeartbeats 1000000 in
theorem sameboxes_any (A B : Option Addr) (c d : Nat) (l m : List Bx) (w : World) (hl : l.length ≤ maxLen) (hm : m.length ≤ maxLen) (h1 : SlR w w.heap.size A l) (h2 : SlR w w.heap.size B m) :
    Calls Tryz.prog 29 #[.slice A l.length c, .slice B m.length d] w fun e w' => e = .returned (.bool (decide (l = m))) ∧ Below w.heap.size w w' := by
  unfold maxLen at hl hm
  by_cases hne : l.length = m.length
  case neg =>
    have hne' : ¬ (l.length : Int) = m.length := by omega
    have hr := hid (show decide (l = m) = false by have : l ≠ m := (fun e => hne (by rw [e])); simp [this])
    clear hne
    go_enter Tryz.func29, Tryz.ntmps29
    go_wp2_with fail
    go_ret
    exact ⟨ret_bool hr.out.symm, Below.refl _ _⟩
  have HN := hid hne
  have hne' : (l.length : Int) = m.length := by omega
  clear hne
  go_enter Tryz.func29, Tryz.ntmps29
  go_wp2_with fail
  go_loopw [5] (fun i wr => ∃ k : Nat, k ≤ m.length ∧ i = .int .i64 k ∧ Below w.heap.size w wr ∧ l.take k = m.take k) (fun i _ => m.length - (intOf i).toNat)
  case atStart => exact ⟨0, by omega, rfl, Below.refl _ _, by simp⟩
  case round =>
    obtain ⟨k, hk, rfl, hB, ht⟩ := hrel
    have HB := hid hB
    have HT := hid ht
    by_cases hlt : k < m.length
    · have hlt' : (k : Int) < m.length := by omega
      have hkl : k < l.length := by have := HN.out; omega
      obtain ⟨b1, o1, rfl, hb1, c1, c2, c3, _⟩ := h1.i3 hkl
      obtain ⟨b2, o2, rfl, hb2, d1, d2, d3, _⟩ := h2.i3 hlt
      replace c1 := (bcell hB b1 _ hb1).trans c1
      replace c2 := (bcell hB b1 _ hb1).trans c2
      replace c3 := (bcell hB b1 _ hb1).trans c3
      replace d1 := (bcell hB b2 _ hb2).trans d1
      replace d2 := (bcell hB b2 _ hb2).trans d2
      replace d3 := (bcell hB b2 _ hb2).trans d3
      have z1 : b1 < wr.heap.size := by have := hB.size; omega
      have z2 : b2 < wr.heap.size := by have := hB.size; omega
      have HE := hid (fun (e : l[k] = m[k]) => take_snoc_eq hkl hlt ht e)
      have HNE := hid (fun (e : l[k] ≠ m[k]) => show decide (l = m) = false from by simp [take_snoc_ne hkl hlt e])
      clear hB ht
      generalize l[k] = x at *
      generalize m[k] = y at *
      obtain ⟨x0, x1, x2⟩ := x
      obtain ⟨y0, y1, y2⟩ := y
      simp only at c1 c2 c3 d1 d2 d3
      by_cases e0 : x0 = y0
      · by_cases e1 : x1 = y1
        · by_cases e2 : x2 = y2
          · subst e0 e1 e2
            have HT2 := hid (HE.out rfl)
            clear HE HNE
            as_aux_lemma =>
              go_wp2_with fail
              go_quiet (fail)
              go_wp2_with fail
              go_roundw
              case rel => exact ⟨k + 1, by omega, by go_num, below_drewN HB.out _, HT2.out⟩
              case measure => simp [intOf]; omega
          · have hf := hid (HNE.out (by simp [e2]))
            subst e0 e1
            clear HE HNE
            as_aux_lemma =>
              go_wp2_with fail
              go_quiet (fail)
              go_wp2_with fail
              go_ret
              exact ⟨ret_bool hf.out.symm, below_drewN HB.out _⟩
        · have hf := hid (HNE.out (by simp [e1]))
          subst e0
          clear HE HNE
          as_aux_lemma =>
            go_wp2_with fail
            go_quiet (fail)
            go_wp2_with fail
            go_ret
            exact ⟨ret_bool hf.out.symm, below_drewN HB.out _⟩
      · have hf := hid (HNE.out (by simp [e0]))
        clear HE HNE
        as_aux_lemma =>
          go_wp2_with fail
          go_quiet (fail)
          go_wp2_with fail
          go_ret
          exact ⟨ret_bool hf.out.symm, below_drewN HB.out _⟩
    · obtain rfl : k = m.length := by omega
      have hr := hid (show decide (l = m) = true by
        have h5 := HN.out
        have h6 := ht
        rw [List.take_length, ← h5, List.take_length] at h6
        simp [h6])
      clear hB ht
      go_wp2_with fail
      go_ret
      exact ⟨ret_bool hr.out.symm, HB.out⟩
set_option maxRecDepth 100000 in
set_option maxHeartbeats 1000000 in
theorem samelots_any (A B : Option Addr) (c d : Nat) (l m : List Lt) (w : World) (hl : l.length ≤ maxLen) (hm : m.length ≤ maxLen) (h1 : SlR w w.heap.size A l) (h2 : SlR w w.heap.size B m) :
    Calls Tryz.prog 30 #[.slice A l.length c, .slice B m.length d] w fun e w' => e = .returned (.bool (decide (l = m))) ∧ Below w.heap.size w w' := by
  unfold maxLen at hl hm
  by_cases hne : l.length = m.length
  case neg =>
    have hne' : ¬ (l.length : Int) = m.length := by omega
    have hr := hid (show decide (l = m) = false by have : l ≠ m := (fun e => hne (by rw [e])); simp [this])
    clear hne
    go_enter Tryz.func30, Tryz.ntmps30
    go_wp2_with fail
    go_ret
    exact ⟨ret_bool hr.out.symm, Below.refl _ _⟩
  have HN := hid hne
  have hne' : (l.length : Int) = m.length := by omega
  clear hne
  go_enter Tryz.func30, Tryz.ntmps30
  go_wp2_with fail
  go_loopw [5] (fun i wr => ∃ k : Nat, k ≤ m.length ∧ i = .int .i64 k ∧ Below w.heap.size w wr ∧ l.take k = m.take k) (fun i _ => m.length - (intOf i).toNat)
  case atStart => exact ⟨0, by omega, rfl, Below.refl _ _, by simp⟩
  case round =>
    obtain ⟨k, hk, rfl, hB, ht⟩ := hrel
    have HB := hid hB
    have HT := hid ht
    by_cases hlt : k < m.length
    · have hlt' : (k : Int) < m.length := by omega
      have hkl : k < l.length := by have := HN.out; omega
      obtain ⟨b1, o1, rfl, hb1, c1, c2, c3, _⟩ := h1.lt hkl
      obtain ⟨b2, o2, rfl, hb2, d1, d2, d3, _⟩ := h2.lt hlt
      replace c1 := (bcell hB b1 _ hb1).trans c1
      replace c2 := (bcell hB b1 _ hb1).trans c2
      replace c3 := (bcell hB b1 _ hb1).trans c3
      replace d1 := (bcell hB b2 _ hb2).trans d1
      replace d2 := (bcell hB b2 _ hb2).trans d2
      replace d3 := (bcell hB b2 _ hb2).trans d3
      have z1 : b1 < wr.heap.size := by have := hB.size; omega
      have z2 : b2 < wr.heap.size := by have := hB.size; omega
      have HE := hid (fun (e : l[k] = m[k]) => take_snoc_eq hkl hlt ht e)
      have HNE := hid (fun (e : l[k] ≠ m[k]) => show decide (l = m) = false from by simp [take_snoc_ne hkl hlt e])
      clear hB ht
      generalize l[k] = x at *
      generalize m[k] = y at *
      obtain ⟨x0, x1, x2⟩ := x
      obtain ⟨y0, y1, y2⟩ := y
      simp only at c1 c2 c3 d1 d2 d3
      by_cases e0 : x0 = y0
      · by_cases e1 : x1 = y1
        · by_cases e2 : x2 = y2
          · subst e0 e1 e2
            have HT2 := hid (HE.out rfl)
            clear HE HNE
            as_aux_lemma =>
              go_wp2_with fail
              go_quiet (fail)
              go_wp2_with fail
              go_roundw
              case rel => exact ⟨k + 1, by omega, by go_num, below_drewN HB.out _, HT2.out⟩
              case measure => simp [intOf]; omega
          · have hf := hid (HNE.out (by simp [e2]))
            subst e0 e1
            clear HE HNE
            as_aux_lemma =>
              go_wp2_with fail
              go_quiet (fail)
              go_wp2_with fail
              go_ret
              exact ⟨ret_bool hf.out.symm, below_drewN HB.out _⟩
        · have hf := hid (HNE.out (by simp [e1]))
          subst e0
          clear HE HNE
          as_aux_lemma =>
            go_wp2_with fail
            go_quiet (fail)
            go_wp2_with fail
            go_ret
            exact ⟨ret_bool hf.out.symm, below_drewN HB.out _⟩
      · have hf := hid (HNE.out (by simp [e0]))
        clear HE HNE
        as_aux_lemma =>
          go_wp2_with fail
          go_quiet (fail)
          go_wp2_with fail
          go_ret
          exact ⟨ret_bool hf.out.symm, below_drewN HB.out _⟩
    · obtain rfl : k = m.length := by omega
      have hr := hid (show decide (l = m) = true by
        have h5 := HN.out
        have h6 := ht
        rw [List.take_length, ← h5, List.take_length] at h6
        simp [h6])
      clear hB ht
      go_wp2_with fail
      go_ret
      exact ⟨ret_bool hr.out.symm, HB.out⟩
set_option maxRecDepth 100000 in
set_option maxHeartbeats 1000000 in
theorem sametakes_any (A B : Option Addr) (c d : Nat) (l m : List Tk) (w : World) (hl : l.length ≤ maxLen) (hm : m.length ≤ maxLen) (h1 : SlR w w.heap.size A l) (h2 : SlR w w.heap.size B m) :
    Calls Tryz.prog 66 #[.slice A l.length c, .slice B m.length d] w fun e w' => e = .returned (.bool (decide (l = m))) ∧ Below w.heap.size w w' := by
  unfold maxLen at hl hm
  by_cases hne : l.length = m.length
  case neg =>
    have hne' : ¬ (l.length : Int) = m.length := by omega
    have hr := hid (show decide (l = m) = false by have : l ≠ m := (fun e => hne (by rw [e])); simp [this])
    clear hne
    go_enter Tryz.func66, Tryz.ntmps66
    go_wp2_with fail
    go_ret
    exact ⟨ret_bool hr.out.symm, Below.refl _ _⟩
  have HN := hid hne
  have hne' : (l.length : Int) = m.length := by omega
  clear hne
  go_enter Tryz.func66, Tryz.ntmps66
  go_wp2_with fail
  go_loopw [5] (fun i wr => ∃ k : Nat, k ≤ m.length ∧ i = .int .i64 k ∧ Below w.heap.size w wr ∧ l.take k = m.take k) (fun i _ => m.length - (intOf i).toNat)
  case atStart => exact ⟨0, by omega, rfl, Below.refl _ _, by simp⟩
  case round =>
    obtain ⟨k, hk, rfl, hB, ht⟩ := hrel
    have HB := hid hB
    have HT := hid ht
    by_cases hlt : k < m.length
    · have hlt' : (k : Int) < m.length := by omega
      have hkl : k < l.length := by have := HN.out; omega
      obtain ⟨b1, o1, rfl, hb1, c1, c2, _⟩ := h1.tk hkl
      obtain ⟨b2, o2, rfl, hb2, d1, d2, _⟩ := h2.tk hlt
      replace c1 := (bcell hB b1 _ hb1).trans c1
      replace c2 := (bcell hB b1 _ hb1).trans c2
      replace d1 := (bcell hB b2 _ hb2).trans d1
      replace d2 := (bcell hB b2 _ hb2).trans d2
      have z1 : b1 < wr.heap.size := by have := hB.size; omega
      have z2 : b2 < wr.heap.size := by have := hB.size; omega
      have HE := hid (fun (e : l[k] = m[k]) => take_snoc_eq hkl hlt ht e)
      have HNE := hid (fun (e : l[k] ≠ m[k]) => show decide (l = m) = false from by simp [take_snoc_ne hkl hlt e])
      clear hB ht
      generalize l[k] = x at *
      generalize m[k] = y at *
      obtain ⟨x0, x1⟩ := x
      obtain ⟨y0, y1⟩ := y
      simp only at c1 c2 d1 d2
      by_cases e0 : x0 = y0
      · by_cases e1 : x1 = y1
        · subst e0 e1
          have HT2 := hid (HE.out rfl)
          clear HE HNE
          as_aux_lemma =>
            go_wp2_with fail
            go_quiet (fail)
            go_wp2_with fail
            go_roundw
            case rel => exact ⟨k + 1, by omega, by go_num, below_drewN HB.out _, HT2.out⟩
            case measure => simp [intOf]; omega
        · have hf := hid (HNE.out (by simp [e1]))
          subst e0
          clear HE HNE
          as_aux_lemma =>
            go_wp2_with fail
            go_quiet (fail)
            go_wp2_with fail
            go_ret
            exact ⟨ret_bool hf.out.symm, below_drewN HB.out _⟩
      · have hf := hid (HNE.out (by simp [e0]))
        clear HE HNE
        as_aux_lemma =>
          go_wp2_with fail
          go_quiet (fail)
          go_wp2_with fail
          go_ret
          exact ⟨ret_bool hf.out.symm, below_drewN HB.out _⟩
    · obtain rfl : k = m.length := by omega
      have hr := hid (show decide (l = m) = true by
        have h5 := HN.out
        have h6 := ht
        rw [List.take_length, ← h5, List.take_length] at h6
        simp [h6])
      clear hB ht
      go_wp2_with fail
      go_ret
      exact ⟨ret_bool hr.out.symm, HB.out⟩

/-- The lots that cannot be sold any more. -/
def expK (lots : List Lt) (t : Int) (k : Nat) : List Nat := (List.range k).filter fun i => decide ((lots.getD i (0, 0, false)).2.1 < t)
theorem expK_succ (lots : List Lt) (t : Int) (k : Nat) : expK lots t (k + 1) = expK lots t k ++ (if (lots.getD k (0, 0, false)).2.1 < t then [k] else []) := by
  unfold expK
  rw [List.range_succ, List.filter_append]
  congr 1
  by_cases h : (lots.getD k (0, 0, false)).2.1 < t <;> simp [List.filter_cons, h]
set_option maxRecDepth 100000 in
set_option maxHeartbeats 4000000 in
theorem expired_any (A : Option Addr) (c : Nat) (lots : List Lt) (t : Int) (w : World) (hl : lots.length ≤ 100000) (h : SlR w w.heap.size A lots) :
    Calls Tryz.prog 12 #[.slice A lots.length c, .int .i64 t] w fun e w' => ∃ v, e = .returned v ∧ OwnI w' w.heap.size v (toI (expK lots t lots.length)) ∧ Below w.heap.size w w' := by
  have H1 := hid h
  clear h
  go_enter Tryz.func12, Tryz.ntmps12
  go_wp2_with fail
  go_loopw [5, 10] (fun ov iv wr => ∃ (k : Nat) (v : Value), k ≤ lots.length ∧ iv = .int .i64 k ∧ v = ov ∧ OwnI wr w.heap.size v (toI (expK lots t k)) ∧ Below w.heap.size w wr) (fun _ iv _ => lots.length - (intOf iv).toNat)
  case atStart => exact ⟨0, .slice none 0 0, by omega, rfl, rfl, ⟨rfl, .inl ⟨rfl, rfl⟩⟩, Below.refl _ _⟩
  case round =>
    obtain ⟨k, v, hk, rfl, rfl, hO, hB⟩ := hrel
    have HO := hid hO; have HB := hid hB
    clear hO hB
    by_cases hlt : k < lots.length
    case neg =>
      obtain rfl : k = lots.length := by omega
      obtain ⟨Av, cv, rfl⟩ := own_form HO.out
      go_wp2_with fail
      go_ret
      exact ⟨_, rfl, HO.out, HB.out⟩
    have hltI : (k : Int) < lots.length := by omega
    have HCS := hid (expK_succ lots t k)
    have hge : lots.getD k (0, 0, false) = lots[k] := by simp [hlt]
    rw [hge] at HCS
    obtain ⟨b, off, rfl, hbz, c0, c1, c2, -⟩ := H1.out.lt hlt
    replace c0 := (bcell HB.out b _ hbz).trans c0
    replace c1 := (bcell HB.out b _ hbz).trans c1
    replace c2 := (bcell HB.out b _ hbz).trans c2
    have hz : b < wr.heap.size := by have := HB.out.size; omega
    clear hge
    generalize lots[k] = xb at *
    obtain ⟨x0, x1, x2⟩ := xb
    simp only at c0 c1 c2
    obtain ⟨wa, hwa⟩ : ∃ wa, wa = wr.alloc (Obj.cells #[.int .i64 x0, .int .i64 x1, .bool x2] 40) := ⟨_, rfl⟩
    have b2 := hid (show Below wr.heap.size wr wa by rw [hwa]; exact (Below.refl wr.heap.size wr).alloc (Nat.le_refl _) _)
    have X2 := hid (show Blk wa wr.heap.size 40 #[.int .i64 x0, .int .i64 x1, .bool x2] by rw [hwa]; exact Blk.new wr _ _)
    have O2 := hid (show OwnI wa w.heap.size v (toI (expK lots t k)) by rw [hwa]; exact HO.out.alloc _)
    have BB2 := hid (HB.out.trans (b2.out.mono HB.out.size))
    have hsep := hid (fun q (e : v.ownBlock = some q) => (own_blk HO.out q e).1)
    clear HO HB b2
    go_upto_region 5 with fail
    rw [← hwa]
    have y0 := X2.out.cell 0; have y1 := X2.out.cell 1; have y2 := X2.out.cell 2; have yz := X2.out.lt
    simp at y0 y1 y2
    clear hwa c0 c1 c2 hz
    by_cases hx1 : x1 < t
    case neg =>
      have hcs := hid (show expK lots t (k + 1) = expK lots t k by rw [HCS.out]; simp [hx1])
      as_aux_lemma =>
        go_wp2_with fail
        go_roundw
        case rel => exact ⟨k + 1, v, by omega, by go_num, rfl, by rw [hcs.out]; exact O2.out, BB2.out⟩
        case measure => simp [intOf]; omega
    have hcs := hid (show toI (expK lots t (k + 1)) = toI (expK lots t k) ++ [(k : Int)] by rw [HCS.out]; simp [hx1, toI])
    have hcell := hid (show ∀ (j : Nat) (u : Value), ([(k : Int)].map (Value.int .i64))[j]? = some u → (wa.alloc (Obj.cells #[.int .i64 (k : Int)] 3)).cell? ((⟨wa.heap.size, 0, none⟩ : Addr).add j) = some u from cell_one_new wa _ _)
    have O6 := hid (O2.out.alloc (Obj.cells #[.int .i64 (k : Int)] 3))
    have BB6 := hid (BB2.out.alloc BB2.out.size (Obj.cells #[.int .i64 (k : Int)] 3))
    have hlw := hid (show (toI (expK lots t k)).length + [(k : Int)].length ≤ 17592186044416 by
      have : (expK lots t k).length ≤ k := by
        have := List.length_filter_le (fun i => decide ((lots.getD i (0, 0, false)).2.1 < t)) (List.range k)
        simpa [expK] using this
      rw [toI_len]; simp; omega)
    have hbase := hid BB6.out.size
    as_aux_lemma =>
      go_wp2_with (at_builtin; refine wp_appI _ rfl (.tmp 19) (.tmp 21) rfl w.heap.size v _ rfl O6.out ⟨wa.heap.size, 0, none⟩ 1 [(k : Int)] rfl hcell.out hlw.out hbase.out ?_; intro v7 w7 ho7 hg7 _; have O7 := hid ho7; have BB7 := hid (BB6.out.grown hg7 BB6.out.size hsep.out); clear ho7 hg7)
      go_roundw
      case rel => exact ⟨k + 1, v7, by omega, by go_num, rfl, by rw [hcs.out]; exact O7.out, BB7.out⟩
      case measure => simp [intOf]; omega
end Go.Proofs.YtfpehakllnkaeaaGreatDoor
