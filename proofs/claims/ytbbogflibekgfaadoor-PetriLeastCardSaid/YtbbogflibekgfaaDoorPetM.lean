
/- Petri: Live. -/
import Derived.Test.YtbbogflibekgfaaDoorPetL
set_option linter.unusedSimpArgs false
set_option linter.unusedVariables false
namespace Go.Proofs.YtbbogflibekgfaaDoor
open Go.RowKit Go.IntWalk Go.Shelf

/-- The transitions below k that are enabled. -/
def liveK (T : List Tr) (m : List Int) (k : Nat) : List Int := ((List.range k).filter (fun i => enN T m (i : Nat))).map (fun (i : Nat) => (i : Int))
theorem liveK_succ (T : List Tr) (m : List Int) (k : Nat) : liveK T m (k + 1) = if enN T m (k : Nat) = true then liveK T m k ++ [(k : Int)] else liveK T m k := by
  unfold liveK
  rw [List.range_succ, List.filter_append, List.map_append]
  split
  · rename_i h; simp [h]
  · rename_i h; simp [h]
theorem liveK_len (T : List Tr) (m : List Int) (k : Nat) : (liveK T m k).length ≤ k := by
  unfold liveK
  rw [List.length_map]
  exact Nat.le_trans (List.length_filter_le _ _) (by simp)
set_option maxRecDepth 100000 in
set_option maxHeartbeats 2000000 in
theorem live_any (n : Int) (A : Option Addr) (c : Nat) (T : List Tr) (B : Option Addr) (d : Nat) (m : List Int) (w : World) (hl : T.length ≤ 5000) (h : SlR w w.heap.size A T) (hm : m.length ≤ maxLen) (hM : SlR w w.heap.size B m)
    (hn : n = m.length) (hok : netOK (n, T) = true) :
    Calls Tryd.prog 10 #[.agg #[.int .i64 n, .slice A T.length c], .slice B m.length d] w fun e w' => ∃ A' c', e = .returned (.slice A' (liveK T m T.length).length c') ∧ OwnI w' w.heap.size (.slice A' (liveK T m T.length).length c') (liveK T m T.length) ∧ Below w.heap.size w w' := by
  obtain ⟨w1, hw1⟩ : ∃ w1, w1 = (w.alloc (Obj.cells #[.int .i64 n, .slice A T.length c] 24)) := ⟨_, rfl⟩
  have B1 : Below w.heap.size w w1 := by rw [hw1]; (repeat (first | exact Below.refl _ _ | assumption | refine below_drewN ?_ _ | refine Below.drew ?_ | refine Below.alloc ?_ (by (try simp); (try omega)) _ | refine Below.setCell ?_ (by (try simp); (try omega)) _))
  have B11 : Below w1.heap.size w w1 → True := fun _ => trivial
  have x1 : Blk w1 w.heap.size 24 #[.int .i64 n, .slice A T.length c] := by rw [hw1]; exact Blk.new w _ _
  have y0 := x1.cell 0; have y1 := x1.cell 1; have z1 := x1.lt
  simp at y0 y1
  have HB1 := hid B1
  have HEN := hid (fun (t : Int) W (hW : Below w.heap.size w W) => enabled_any n A c T B d m t W (by unfold maxLen; omega) ((h.below hW).more hW.size) hm ((hM.below hW).more hW.size) hn hok)
  clear B1 B11 h hM hn hok
  unfold maxLen at hm
  go_enter Tryd.func10, Tryd.ntmps10
  go_upto_region 1 with fail
  rw [← hw1]
  have X1 := hid x1
  clear hw1 x1
  go_upto_region 3 with fail
  clear y0 y1
  go_loopw [5, 10] (fun v i wr => ∃ (k : Nat) (A9 : Option Addr) (c9 : Nat), k ≤ T.length ∧ i = .int .i64 k ∧ v = .slice A9 (liveK T m k).length c9 ∧ OwnI wr w1.heap.size (.slice A9 (liveK T m k).length c9) (liveK T m k) ∧ Below w1.heap.size w1 wr) (fun _ i _ => T.length - (intOf i).toNat)
  case atStart => exact ⟨0, none, 0, by omega, rfl, rfl, OwnI.nil _ _, Below.refl _ _⟩
  case round =>
    obtain ⟨k, A9, c9, hk, rfl, rfl, ho, hB⟩ := hrel
    have HO := hid ho
    have HB := hid hB
    have HBw := hid (HB1.out.trans (hB.mono HB1.out.size))
    by_cases hlt : k < T.length
    · have hlt' : (k : Int) < T.length := by omega
      have X1r := X1.out.below hB z1
      have y0 := X1r.cell 0; have y1 := X1r.cell 1; have z1r := X1r.lt
      simp at y0 y1
      have HE := hid (HEN.out k wr HBw.out)
      have hsu := hid (liveK_succ T m k)
      have hlk := liveK_len T m k
      clear ho hB X1r
      generalize liveK T m k = L at *
      cases hq : enN T m (k : Nat) with
      | false =>
        rw [hq] at HE hsu
        clear hq
        go_wp2_with (go_at_call 26; refine HE.out.mono ?_; rintro e w5 ⟨rfl, hB5⟩)
        have HB5 := hid (HB.out.trans (hB5.mono HB.out.size))
        have HO5 := hid (HO.out.below hB5)
        clear hB5
        go_wp2_with fail
        go_roundw
        case rel => exact ⟨k + 1, A9, c9, by omega, by go_num, by rw [hsu.out]; simp, by rw [hsu.out]; simpa using HO5.out, HB5.out⟩
        case measure => simp [intOf]; omega
      | true =>
        rw [hq] at HE hsu
        clear hq
        go_upto_region 6 with (go_at_call 26; refine HE.out.mono ?_; rintro e w5 ⟨rfl, hB5⟩)
        have HB5 := hid (HB.out.trans (hB5.mono HB.out.size))
        have HO5 := hid (HO.out.below hB5)
        have hX := hid (Blk.new w5 3 #[.int .i64 (k : Nat)])
        have hcell := hX.out.cell 0
        simp only [List.getElem?_toArray, List.getElem?_cons_zero] at hcell
        have hcl := hid hcell
        have hbase := hid (HB5.out.size)
        clear hB5 hcell
        go_wp2_with (at_builtin; refine wp_appK _ rfl (.tmp 17) (.tmp 19) rfl w1.heap.size (.slice A9 L.length c9) L rfl (HO5.out.alloc _) _ 1 (k : Nat) rfl hcl.out (by omega) (by have := hbase.out; simp; omega) ?_; intro A8 c8 w9 ho9 hg9 hd9)
        have B9 := hid (show Below w1.heap.size w1 w9 from (HB5.out.alloc HB5.out.size _).grown hg9 (by have := hbase.out; simp; omega) (fun g hg => (HO5.out.lt g hg).1))
        have HO9 := hid ho9
        clear ho9 hg9 hd9
        go_wp2_with fail
        go_roundw
        case rel => exact ⟨k + 1, A8, c8, by omega, by go_num, by rw [hsu.out]; simp, by rw [hsu.out]; simpa using HO9.out, B9.out⟩
        case measure => simp [intOf]; omega
    · obtain rfl : k = T.length := by omega
      clear ho hB
      go_wp2_with fail
      go_ret
      exact ⟨A9, c9, rfl, own_base HO.out HB1.out.size, HBw.out⟩
end Go.Proofs.YtbbogflibekgfaaDoor
