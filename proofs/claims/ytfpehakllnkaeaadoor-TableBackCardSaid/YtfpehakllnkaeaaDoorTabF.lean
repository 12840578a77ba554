
/- Table: rows of the call's own sorted by their positions (slices.SortFunc). -/
import Derived.Test.YtfpehakllnkaeaaDoorTabSh
import Derived.Test.YtfpehakllnkaeaaDoorTabR
set_option linter.unusedSimpArgs false
set_option linter.unusedVariables false
namespace Go.Proofs.YtfpehakllnkaeaaDoor
open Go.RowKit Go.IntWalk Go.Shelf Go.Sort

def rwRK : RK Row where
  e := 87
  t := 35
  size := 3
  bytes := 24
  z := .agg #[.int .i64 0, .int .i64 0, .int .i64 0]
  cs x := [.int .i64 x.1, .int .i64 x.2.1, .int .i64 x.2.2]
  ok x := RowI x
  und := Tryd.underlying35
  info := by kernel_rfl
  zcs := rfl
  pos := by omega
  small := by omega
  len _ := rfl
  one x v hv := by simp at hv; rcases hv with rfl | rfl | rfl <;> rfl
  rsz := rfl
  rep w B x h := ⟨[.int .i64 x.1], [.int .i64 x.2.1, .int .i64 x.2.2], rfl, rfl, rfl, ⟨rfl, h.1⟩, [.int .i64 x.2.1], [.int .i64 x.2.2], rfl, rfl, rfl, ⟨rfl, h.2.1⟩, rfl, h.2.2⟩
  inv w B c x h := by obtain ⟨c1, c2, rfl, _, _, ⟨rfl, i0⟩, c3, c4, rfl, _, _, ⟨rfl, i1⟩, rfl, i2⟩ := h; exact ⟨rfl, i0, i1, i2⟩

/-! ### The comparison, to the world -/
set_option maxRecDepth 100000 in
theorem isNaN_ex (x : Int) (w : World) : Calls Tryd.prog 74 #[.int .i64 x] w fun e w' => e = .returned (.bool false) ∧ w' = w := by
  go_enter Tryd.func74, Tryd.ntmps74
  go_wp2_with fail
  go_ret
  exact ⟨rfl, rfl⟩
set_option maxRecDepth 100000 in
theorem compare_ex (x y : Int) (w : World) : Calls Tryd.prog 58 #[.int .i64 x, .int .i64 y] w fun e w' => e = .returned (.int .i64 (cmpI x y)) ∧ w' = w := by
  have HN := hid isNaN_ex
  go_enter Tryd.func58, Tryd.ntmps58
  go_wp2_with fail
  refine (HN.out _ _).mono ?_
  rintro e w2 ⟨rfl, rfl⟩
  go_wp2_with fail
  refine (HN.out _ _).mono ?_
  rintro e w3 ⟨rfl, rfl⟩
  by_cases h1 : x < y
  · have hc := hid (show cmpI x y = -1 by simp [cmpI, h1])
    as_aux_lemma =>
      go_wp2_with fail
      go_ret
      exact ⟨ret_int hc.out.symm, rfl⟩
  · by_cases h2 : y < x
    · have hc := hid (show cmpI x y = 1 by simp [cmpI, h1, h2])
      as_aux_lemma =>
        go_wp2_with fail
        go_ret
        exact ⟨ret_int hc.out.symm, rfl⟩
    · have hc := hid (show cmpI x y = 0 by simp [cmpI, h1, h2])
      as_aux_lemma =>
        go_wp2_with fail
        go_ret
        exact ⟨ret_int hc.out.symm, rfl⟩
abbrev cfR (x y : Row) : Int := cmpI x.1 y.1
theorem ltR (x y : Row) : ltOf cfR x y = decide (x.1 < y.1) := by
  unfold ltOf cfR cmpI
  by_cases h1 : x.1 < y.1
  · simp [h1]
  · by_cases h2 : y.1 < x.1 <;> simp [h1, h2]
theorem swoR : SWO (ltOf cfR) where
  irrefl x := by rw [ltR]; simp
  trans x y z h1 h2 := by rw [ltR] at *; simp at *; omega
  ntrans x y z h1 h2 := by rw [ltR] at *; simp at *; omega
set_option maxRecDepth 100000 in
theorem needcmp_ex (x y : Row) (W : World) : Calls Tryd.prog 57 #[.agg #[.int .i64 x.1, .int .i64 x.2.1, .int .i64 x.2.2], .agg #[.int .i64 y.1, .int .i64 y.2.1, .int .i64 y.2.2]] W fun e w' => e = .returned (.int .i64 (cfR x y)) ∧ ∃ q os', w' = grow (W.drewN q) os' := by
  have hcon := hid (fun W' => compare_ex x.1 y.1 W')
  generalize hr : cfR x y = r at *
  have HR := hid (show cmpI x.1 y.1 = r from hr)
  rw [HR.out] at hcon
  clear hr
  go_enter Tryd.func57, Tryd.ntmps57
  go_wp2_with fail
  refine (hcon.out _).mono ?_
  rintro e w' ⟨rfl, rfl⟩
  go_wp2_with fail
  go_ret
  exact ⟨rfl, 0, _, by rw [alloc_eq_grow, alloc_eq_grow, grow_grow]; rfl⟩
/-! ### The row, behind the sort -/
def encR (x : Row) : List Value := [.int .i64 x.1, .int .i64 x.2.1, .int .i64 x.2.2]
theorem flatR (d : Array Row) (j : Nat) (hj : j < d.size * 3) : (rwRK.all d.toList)[j]? = some ((encR d[j / 3]!)[j % 3]!) := by
  have hk : j / 3 < d.size := (Nat.div_lt_iff_lt_mul (by omega)).2 hj
  have hm : j % 3 < 3 := Nat.mod_lt _ (by omega)
  have h := rwRK.all_at d.toList (j / 3) (by simpa using hk) (j % 3) hm
  have e : j / 3 * 3 + j % 3 = j := by omega
  rw [show rwRK.size = 3 from rfl, e] at h
  rw [h]
  have e2 : d[j / 3]! = d.toList[j / 3]'(by simpa using hk) := by rw [getElem!_pos d _ hk]; simp
  rw [e2]
  have hl : (rwRK.cs (d.toList[j / 3]'(by simpa using hk))).length = 3 := rfl
  rw [List.getElem?_eq_getElem (by rw [hl]; exact hm)]
  congr 1
  rw [getElem!_pos (encR _) _ (by simp [encR]; exact hm)]
  rfl
theorem own_holds {w : World} {base g n c : Nat} {l : List Row} (h : rwRK.Own w base (.slice (some ⟨g, 0, none⟩) n c) l) : HoldsK encR 3 w g 0 l.toArray := by
  intro j hj
  rw [size_flatK] at hj
  by_cases h0 : 0 < l.length
  · obtain ⟨g', cap, cur, hv, hg, hb, hc, hm, hcell⟩ := own_cell h h0
    injection hv with hv _ _
    injection hv with hv
    injection hv with hv
    subst hv
    have hj2 : j < l.length * 3 := by simpa using hj
    refine ⟨?_, hb.frozen _⟩
    rw [Nat.zero_add, hb.cell, hcell j hj2, get_flatK _ _ _ _ hj]
    exact flatR l.toArray j hj
  · have : l.length = 0 := by omega
    simp [this] at hj
theorem own_sorted {w : World} {base g n c : Nat} {l : List Row} (h : rwRK.Own w base (.slice (some ⟨g, 0, none⟩) n c) l) (d' : Array Row) (hs : d'.size = l.length) (m : Nat) (os : Array Obj) :
    rwRK.Own (sortWorldK encR 3 w g 0 m d' os) base (.slice (some ⟨g, 0, none⟩) n c) d'.toList ∧ w.grownBy (sortWorldK encR 3 w g 0 m d' os) (some g) := by
  have hh := h.2
  rcases hh with ⟨hv, -⟩ | ⟨g', cap, cur, hv, hg, hb, hc, hm, hsz, ht⟩
  · cases hv
  injection hv with hv1 hv2 hv3
  injection hv1 with hv1
  injection hv1 with hv1
  subst hv1 hv3
  have hb : Blk w g 87 cur := hb
  have hglt := hb.lt
  have hheap : (sortWorldK encR 3 w g 0 m d' os).heap[g]? = some (.cells (putCells id 0 (flatK encR 3 d') cur) 87 (0, 0)) := by
    have hb' : w.heap[g]? = some (.cells cur 87 (0, 0)) := hb
    unfold sortWorldK grow putRowK putRow mapBlock Sort.ahead
    simp only
    rw [Array.getElem?_append_left (by simpa using hglt), Array.getElem?_modify, if_pos rfl, hb']
    rfl
  have hel : ∀ j, j < l.length * 3 → (putCells id 0 (flatK encR 3 d') cur)[j]? = (rwRK.all d'.toList)[j]? := by
    intro j hj
    have hjd : j < d'.size * 3 := by rw [hs]; exact hj
    have hjc : j < cur.size := by rw [hsz]; exact Nat.lt_of_lt_of_le hj (Nat.mul_le_mul_right _ hc)
    unfold putCells
    rw [Array.getElem?_mapIdx, Array.getElem?_eq_getElem hjc, Option.map_some, if_pos ⟨Nat.zero_le _, by rw [size_flatK]; omega⟩, Nat.sub_zero, get_flatK _ _ _ _ hjd]
    exact (flatR d' j hjd).symm
  refine ⟨⟨rwRK.all_len _, .inr ⟨g, c, putCells id 0 (flatK encR 3 d') cur, ?_, hg, hheap, ?_, hm, ?_, ?_⟩⟩, ?_⟩
  · rw [Array.length_toList, hs, hv2]
  · rw [Array.length_toList, hs]; exact hc
  · unfold putCells; rw [Array.size_mapIdx]; exact hsz
  · refine List.ext_getElem? fun j => ?_
    rw [show d'.toList.length = l.length by rw [Array.length_toList, hs]]
    by_cases hj : j < l.length * 3
    · rw [List.getElem?_take_of_lt (show j < l.length * rwRK.size from hj), ← hel j hj]; simp
    · rw [List.getElem?_eq_none (by rw [List.length_take]; exact Nat.le_trans (Nat.min_le_left _ _) (by have : rwRK.size = 3 := rfl; rw [this]; omega)), List.getElem?_eq_none (by rw [rwRK.all_len, Array.length_toList, hs]; have : rwRK.size = 3 := rfl; rw [this]; omega)]
  · refine ⟨rfl, rfl, rfl, ?_, fun k hk hne => ?_⟩
    · unfold sortWorldK; rw [size_grow]; unfold putRowK; rw [size_putRow]; exact Nat.le_add_right _ _
    · have hkg : ¬ g = k := fun e => hne (by rw [e])
      unfold sortWorldK grow putRowK putRow mapBlock Sort.ahead
      simp only
      rw [Array.getElem?_append_left (by simpa using hk), Array.getElem?_modify, if_neg hkg]
set_option maxRecDepth 100000 in
set_option maxHeartbeats 1000000 in
/-- slices.SortFunc by positions, on a row of the call's own. -/
theorem sortr_any (base g c : Nat) (l : List Row) (w : World) (hl : l.length ≤ 1000000) (h : rwRK.Own w base (.slice (some ⟨g, 0, none⟩) l.length c) l) :
    Calls Tryd.prog 56 #[.slice (some ⟨g, 0, none⟩) l.length c, .func (.func 57) #[] #[]] w fun e w' => e = .returned (.tuple #[]) ∧ ∃ l' : List Row, l'.Perm l ∧ l'.Pairwise (fun a b => a.1 ≤ b.1) ∧ rwRK.Own w' base (.slice (some ⟨g, 0, none⟩) l.length c) l' ∧ w.grownBy w' (some g) := by
  have eg : ∀ args w, (callFunc 57 args).run Tryd.prog w = .ok (.enter 57 args) w := enters_of Tryd.func57 (by kernel_rfl) rfl
  have hlt : g < w.heap.size := by
    rcases h.2 with ⟨hv, -⟩ | ⟨g', cap, cur, hv, hg, hb, hc, hm, hsz, ht⟩
    · cases hv
    · injection hv with hv1 hv2 hv3
      injection hv1 with hv1
      injection hv1 with hv1
      subst hv1
      exact Blk.lt hb
  have hcon := AnyQ.slices_SortFunc laysSort 3 Tryd.isAgg87 Tryd.sizeOf87 encR (fun _ => rfl) (fun x v hv => by simp [encR] at hv; rcases hv with rfl | rfl | rfl <;> rfl) cfR swoR 57 #[] g 0 c l.toArray w eg (fun _ _ _ _ x y => needcmp_ex x y _) (own_holds h) hlt (by simp; omega)
  have e0 : l.toArray.size = l.length := by simp
  rw [e0] at hcon
  refine Calls.mono (show Calls Tryd.prog 56 _ _ _ from hcon) ?_
  rintro e w' ⟨rfl, d', m, os, hp, hsd, rfl⟩
  have hsz : d'.size = l.length := by rw [hp.1]; simp
  obtain ⟨h1, h2⟩ := own_sorted h d' hsz m os
  refine ⟨rfl, d'.toList, ?_, ?_, h1, h2⟩
  · have := hp.2.2
    rw [Array.extract_eq_self_of_le (by omega), Array.extract_eq_self_of_le (by simp)] at this
    simpa using this
  · refine List.pairwise_iff_getElem.2 fun i j hi hj hij => ?_
    rw [Array.length_toList] at hi hj
    have := hsd i j (Nat.zero_le _) hij (by omega)
    rw [ltR, getElem!_pos d' _ hj, getElem!_pos d' _ hi] at this
    simp at this
    simpa using this
end Go.Proofs.YtfpehakllnkaeaaDoor
