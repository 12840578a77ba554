
/- Layouts, shifts: lists of shifts of the call's own, sorted (slices.SortFunc). -/
import Derived.Test.YtbelaeellcnpmaaLshSh
import Derived.Shelf.SlSortCmp.NoneTotal
set_option linter.unusedSimpArgs false
set_option linter.unusedVariables false
namespace Go.Proofs.Ytbelaeellcnpmaa
open Go.RowKit Go.IntWalk Go.Shelf Go.Sort

/-- Shifts between cells of a region. -/
abbrev Sw := {x : Sh // (0 ≤ x.1 ∧ x.1 ≤ 1000) ∧ 0 ≤ x.2 ∧ x.2 ≤ 1000}
instance : Inhabited Sw := ⟨⟨(0, 0), by decide⟩⟩
def cfS (x y : Sw) : Int := if x.1.1 ≠ y.1.1 then x.1.1 - y.1.1 else x.1.2 - y.1.2
theorem ltS (x y : Sw) : ltOf cfS x y = decide (x.1.1 < y.1.1 ∨ x.1.1 = y.1.1 ∧ x.1.2 < y.1.2) := by
  unfold ltOf cfS
  refine decide_eq_decide.2 ?_
  split <;> omega
theorem swoS : SWO (ltOf cfS) where
  irrefl x := by rw [ltS]; simp
  trans x y z h1 h2 := by rw [ltS] at *; simp only [decide_eq_true_eq] at *; omega
  ntrans x y z h1 h2 := by rw [ltS] at *; simp only [decide_eq_false_iff_not] at *; omega
set_option maxRecDepth 100000 in
set_option maxHeartbeats 1000000 in
theorem shcmp_ex (x y : Sw) (W : World) : Calls Try.prog 29 #[.agg #[.int .i64 x.1.1, .int .i64 x.1.2], .agg #[.int .i64 y.1.1, .int .i64 y.1.2]] W fun e w' => e = .returned (.int .i64 (cfS x y)) ∧ ∃ q os', w' = grow (W.drewN q) os' := by
  obtain ⟨⟨x1, x2⟩, ⟨⟨hx1, hx2⟩, hx3, hx4⟩⟩ := x
  obtain ⟨⟨y1, y2⟩, ⟨⟨hy1, hy2⟩, hy3, hy4⟩⟩ := y
  simp only at *
  by_cases he : x1 = y1
  · have hc := hid (show cfS ⟨(x1, x2), ⟨⟨hx1, hx2⟩, hx3, hx4⟩⟩ ⟨(y1, y2), ⟨⟨hy1, hy2⟩, hy3, hy4⟩⟩ = x2 - y2 by simp [cfS, he])
    rw [hc.out]
    subst he
    clear hc
    go_enter Try.func29, Try.ntmps29
    go_wp2_with fail
    go_ret
    exact ⟨rfl, 0, _, by rw [alloc_eq_grow, alloc_eq_grow, grow_grow]; rfl⟩
  · have hc := hid (show cfS ⟨(x1, x2), ⟨⟨hx1, hx2⟩, hx3, hx4⟩⟩ ⟨(y1, y2), ⟨⟨hy1, hy2⟩, hy3, hy4⟩⟩ = x1 - y1 by simp [cfS, he])
    rw [hc.out]
    have hne : (x1 != y1) = true := by simp [he]
    clear hc
    go_enter Try.func29, Try.ntmps29
    go_wp2_with fail
    go_ret
    exact ⟨rfl, 0, _, by rw [alloc_eq_grow, alloc_eq_grow, grow_grow]; rfl⟩
/-! ### The row, behind the sort -/
def encR (x : Sw) : List Value := [.int .i64 x.1.1, .int .i64 x.1.2]
theorem sw_list : ∀ (l : List Sh), (∀ x ∈ l, (0 ≤ x.1 ∧ x.1 ≤ 1000) ∧ 0 ≤ x.2 ∧ x.2 ≤ 1000) → ∃ d : List Sw, d.map (·.1) = l
  | [], _ => ⟨[], rfl⟩
  | x :: l, h => by
    obtain ⟨d, hd⟩ := sw_list l (fun y hy => h y (List.mem_cons_of_mem _ hy))
    exact ⟨⟨x, h x (List.mem_cons_self ..)⟩ :: d, by rw [List.map_cons, hd]⟩
theorem flatR (d : Array Sw) (j : Nat) (hj : j < d.size * 2) : (shRK.all (d.toList.map (·.1)))[j]? = some ((encR d[j / 2]!)[j % 2]!) := by
  have hk : j / 2 < d.size := (Nat.div_lt_iff_lt_mul (by omega)).2 hj
  have hm : j % 2 < 2 := Nat.mod_lt _ (by omega)
  have h := shRK.all_at (d.toList.map (·.1)) (j / 2) (by simpa using hk) (j % 2) hm
  have e : j / 2 * 2 + j % 2 = j := by omega
  rw [show shRK.size = 2 from rfl, e] at h
  rw [h, List.getElem_map]
  have e2 : d[j / 2]! = d.toList[j / 2]'(by simpa using hk) := by rw [getElem!_pos d _ hk]; simp
  rw [e2]
  have hl : (shRK.cs (d.toList[j / 2]'(by simpa using hk)).1).length = 2 := rfl
  rw [List.getElem?_eq_getElem (by rw [hl]; exact hm)]
  congr 1
  rw [getElem!_pos (encR _) _ (by simp [encR]; exact hm)]
  rfl
theorem own_holds {w : World} {base g n c : Nat} {d : Array Sw} (h : shRK.Own w base (.slice (some ⟨g, 0, none⟩) n c) (d.toList.map (·.1))) : HoldsK encR 2 w g 0 d := by
  intro j hj
  rw [size_flatK] at hj
  by_cases h0 : 0 < (d.toList.map (·.1)).length
  · obtain ⟨g', cap, cur, hv, hg, hb, hc, hm, hcell⟩ := own_cell h h0
    injection hv with hv _ _
    injection hv with hv
    injection hv with hv
    subst hv
    have hj2 : j < (d.toList.map (·.1)).length * 2 := by simpa using hj
    refine ⟨?_, hb.frozen _⟩
    rw [Nat.zero_add, hb.cell, hcell j hj2, get_flatK _ _ _ _ hj]
    exact flatR d j hj
  · have : d.size = 0 := by simpa using h0
    simp [this] at hj
theorem own_sorted {w : World} {base g n c : Nat} {l : List Sh} (h : shRK.Own w base (.slice (some ⟨g, 0, none⟩) n c) l) (d' : Array Sw) (hs : d'.size = l.length) (m : Nat) (os : Array Obj) :
    shRK.Own (sortWorldK encR 2 w g 0 m d' os) base (.slice (some ⟨g, 0, none⟩) n c) (d'.toList.map (·.1)) ∧ w.grownBy (sortWorldK encR 2 w g 0 m d' os) (some g) := by
  have hh := h.2
  rcases hh with ⟨hv, -⟩ | ⟨g', cap, cur, hv, hg, hb, hc, hm, hsz, ht⟩
  · cases hv
  injection hv with hv1 hv2 hv3
  injection hv1 with hv1
  injection hv1 with hv1
  subst hv1 hv3
  have hb : Blk w g 36 cur := hb
  have hglt := hb.lt
  have hheap : (sortWorldK encR 2 w g 0 m d' os).heap[g]? = some (.cells (putCells id 0 (flatK encR 2 d') cur) 36 (0, 0)) := by
    have hb' : w.heap[g]? = some (.cells cur 36 (0, 0)) := hb
    unfold sortWorldK grow putRowK putRow mapBlock Sort.ahead
    simp only
    rw [Array.getElem?_append_left (by simpa using hglt), Array.getElem?_modify, if_pos rfl, hb']
    rfl
  have hel : ∀ j, j < l.length * 2 → (putCells id 0 (flatK encR 2 d') cur)[j]? = (shRK.all (d'.toList.map (·.1)))[j]? := by
    intro j hj
    have hjd : j < d'.size * 2 := by rw [hs]; exact hj
    have hjc : j < cur.size := by rw [hsz]; exact Nat.lt_of_lt_of_le hj (Nat.mul_le_mul_right _ hc)
    unfold putCells
    rw [Array.getElem?_mapIdx, Array.getElem?_eq_getElem hjc, Option.map_some, if_pos ⟨Nat.zero_le _, by rw [size_flatK]; omega⟩, Nat.sub_zero, get_flatK _ _ _ _ hjd]
    exact (flatR d' j hjd).symm
  refine ⟨⟨shRK.all_len _, .inr ⟨g, c, putCells id 0 (flatK encR 2 d') cur, ?_, hg, hheap, ?_, hm, ?_, ?_⟩⟩, ?_⟩
  · rw [List.length_map, Array.length_toList, hs, hv2]
  · rw [List.length_map, Array.length_toList, hs]; exact hc
  · unfold putCells; rw [Array.size_mapIdx]; exact hsz
  · refine List.ext_getElem? fun j => ?_
    rw [List.length_map, show d'.toList.length = l.length by rw [Array.length_toList, hs]]
    by_cases hj : j < l.length * 2
    · rw [List.getElem?_take_of_lt (show j < l.length * shRK.size from hj), ← hel j hj]; simp
    · rw [List.getElem?_eq_none (by rw [List.length_take]; exact Nat.le_trans (Nat.min_le_left _ _) (by have : shRK.size = 2 := rfl; rw [this]; omega)), List.getElem?_eq_none (by rw [shRK.all_len, List.length_map, Array.length_toList, hs]; have : shRK.size = 2 := rfl; rw [this]; omega)]
  · refine ⟨rfl, rfl, rfl, ?_, fun k hk hne => ?_⟩
    · unfold sortWorldK; rw [size_grow]; unfold putRowK; rw [size_putRow]; exact Nat.le_add_right _ _
    · have hkg : ¬ g = k := fun e => hne (by rw [e])
      unfold sortWorldK grow putRowK putRow mapBlock Sort.ahead
      simp only
      rw [Array.getElem?_append_left (by simpa using hk), Array.getElem?_modify, if_neg hkg]
set_option maxRecDepth 100000 in
set_option maxHeartbeats 1000000 in
/-- slices.SortFunc, on a row of the call's own: the same shifts in some order. -/
theorem sortsh_any (base g c : Nat) (l : List Sh) (w : World) (hl : l.length ≤ 1000000) (hin : ∀ x ∈ l, (0 ≤ x.1 ∧ x.1 ≤ 1000) ∧ 0 ≤ x.2 ∧ x.2 ≤ 1000) (h : shRK.Own w base (.slice (some ⟨g, 0, none⟩) l.length c) l) :
    Calls Try.prog 28 #[.slice (some ⟨g, 0, none⟩) l.length c, .func (.func 29) #[] #[]] w fun e w' => e = .returned (.tuple #[]) ∧ ∃ l' : List Sh, l'.Perm l ∧ shRK.Own w' base (.slice (some ⟨g, 0, none⟩) l.length c) l' ∧ w.grownBy w' (some g) := by
  have eg : ∀ args w, (callFunc 29 args).run Try.prog w = .ok (.enter 29 args) w := enters_of Try.func29 (by kernel_rfl) rfl
  obtain ⟨d, rfl⟩ := sw_list l hin
  have hlt : g < w.heap.size := (World.ownsRow.lt h g rfl).2
  have hho : HoldsK encR 2 w g 0 d.toArray := own_holds (d := d.toArray) (by simpa using h)
  rw [List.length_map] at hl h ⊢
  have hcon := AnyQ.slices_SortFunc laysSort 2 Try.isAgg36 Try.sizeOf36 encR (fun _ => rfl) (fun x v hv => by simp [encR] at hv; rcases hv with rfl | rfl <;> rfl) cfS swoS 29 #[] g 0 c d.toArray w eg (fun _ _ _ _ x y => shcmp_ex x y _) hho hlt (by simp; omega)
  have e0 : d.toArray.size = d.length := by simp
  rw [e0] at hcon
  refine Calls.mono (show Calls Try.prog 28 _ _ _ from hcon) ?_
  rintro e w' ⟨rfl, d', m, os, hp, hsd, rfl⟩
  have hsz : d'.size = d.length := by rw [hp.1]; simp
  obtain ⟨h1, h2⟩ := own_sorted h d' (by simpa using hsz) m os
  refine ⟨rfl, d'.toList.map (·.1), ?_, h1, h2⟩
  have := hp.2.2
  rw [Array.extract_eq_self_of_le (by omega), Array.extract_eq_self_of_le (by simp)] at this
  exact List.Perm.map _ (by simpa using this)
theorem sortnil_any (A : Option Addr) (c : Nat) (w : World) :
    Calls Try.prog 28 #[.slice A 0 c, .func (.func 29) #[] #[]] w fun e w' => e = .returned (.tuple #[]) ∧ w' = w :=
  AnyF.slices_SortFunc_none (P := Try.prog) (ρ := laysSort_ren) laysSort A c _ w
end Go.Proofs.Ytbelaeellcnpmaa
