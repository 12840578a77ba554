
/- Seam: the reference's New. -/
import Derived.Test.YtfofmbmmighdiaaDoorSeamRa
import Derived.Deep.RegionLaw
set_option linter.unusedSimpArgs false
set_option linter.unusedVariables false
namespace Go.Proofs.YtfofmbmmighdiaaDoor
open Go.RowKit Go.IntWalk

def RNewRes (w : World) (me : Int) (r : Option (List Rob)) (e : Ending) (w' : World) : Prop :=
  match r with
  | some rs => ∃ b v, e = .returned (.pointer (some ⟨b, 0, none⟩)) ∧ w.heap.size ≤ b ∧ Dr w' w.heap.size b v me rs ∧ Below w.heap.size w w'
  | none => e = .returned (.pointer none) ∧ Below w.heap.size w w'
set_option maxRecDepth 100000 in
set_option maxHeartbeats 2000000 in
theorem rnew_yes (me : Int) (A : Option Addr) (c : Nat) (mine : List Bool) (w : World) (hm : me = 0 ∨ me = 1) (hl : mine.length ≤ 200) (hs : SlR w w.heap.size A mine) :
    Calls Tryd.prog 16 #[.int .i64 me, .slice A mine.length c] w (RNewRes w me (some (mine.map fun x => (if x then 1 else 0, 0, false)))) := by
  have hm0 : me = 0 ∨ (me == 0) = false := by rcases hm with rfl | rfl <;> simp
  have b0 := hid (Blk.new w 53 #[.int .i64 me, .slice none 0 0])
  have hb0 := hid (show Below w.heap.size w (w.alloc (Obj.cells #[.int .i64 me, .slice none 0 0] 53)) by (repeat (first | exact Below.refl _ _ | assumption | refine below_drewN ?_ _ | refine Below.drew ?_ | refine Below.alloc ?_ (by (try simp); (try omega)) _ | refine Below.setCell ?_ (by (try simp); (try omega)) _)))
  rcases hm with rfl | rfl
  all_goals
    clear hm0
    go_enter Tryd.func16, Tryd.ntmps16
    go_wp2_with fail
    go_loopw [6] (fun i wr => ∃ (k : Nat) (v : Value), k ≤ mine.length ∧ i = .int .i64 k ∧ Dr wr w.heap.size w.heap.size v _ ((mine.take k).map fun x => (if x then 1 else 0, 0, false)) ∧ Below w.heap.size w wr) (fun i _ => mine.length - (intOf i).toNat)
    case atStart => exact ⟨0, _, by omega, rfl, ⟨b0.out, ⟨rfl, .inl ⟨rfl, rfl⟩⟩⟩, hb0.out⟩
    case round =>
      obtain ⟨k, v, hk, rfl, hD, hB⟩ := hrel
      by_cases hlt : k < mine.length
      · obtain ⟨b9, o9, rfl, hb9, g1⟩ := (hs.below hB).bool hlt
        have hz9 : b9 < wr.heap.size := by have := hB.size; omega
        have hsn := hid (map_snocR mine k hlt)
        have hlt' : (k : Int) < mine.length := by omega
        generalize mine[k] = x at *
        obtain ⟨d0, d1⟩ := dr2 hD
        have e0 := hD.d.frozen 0; have e1 := hD.d.frozen 1
        have hzd := hD.d.lt
        have HD := hid hD
        clear hD
        cases x with
        | true =>
          go_wp2_with fail
          have HD2 := hid (((HD.out.alloc (Obj.cells #[.int .i64 1, .int .i64 0, .bool false] 48)).alloc (Obj.cells #[.int .i64 1, .int .i64 0, .bool false] 48)).drew)
          go_region_law (first | (refine step_appRr _ (by rfl) (.tmp 38) (.tmp 40) (by rfl) w.heap.size v _ (by rfl) HD2.out.r (wr.heap.size + 1) (1, 0, false) (by rfl) ?_ ?_ ?_ ?_; (exact (blk_new2F _ _ _ _).drew); (simp; omega); (simp; omega); intro g cap w1 ho1 hgr hat hlt1; have hd1 := Blk.grown HD2.out.d hgr (fun e => HD2.out.dn e.symm); have d10 := hd1.cell 0; have d11 := hd1.cell 1; have d1f := hd1.frozen 1; have d1l := hd1.lt; simp at d10 d11))
          all_goals
            have HF := hid (dr_app HD2.out ho1 hgr hat)
            have hB1 : Below w.heap.size w (((wr.alloc (Obj.cells #[.int .i64 1, .int .i64 0, .bool false] 48)).alloc (Obj.cells #[.int .i64 1, .int .i64 0, .bool false] 48)).drew) := by
              have := hB.size
              (repeat (first | exact Below.refl _ _ | assumption | refine below_drewN ?_ _ | refine Below.drew ?_ | refine Below.alloc ?_ (by (try simp); (try omega)) _ | refine Below.setCell ?_ (by (try simp); (try omega)) _))
            have hB2 := hB1.grown hgr hB1.size (fun j hj => (HD2.out.r.lt j hj).1)
            simp only [List.length_map, List.length_take, Nat.min_eq_left (Nat.le_of_lt hlt)] at HF
            clear ho1 hgr hat hd1
            go_wp2_with fail
            go_roundw
            case rel => exact ⟨k + 1, _, by omega, by go_num, by rw [hsn.out]; exact HF.out, hB2.setCell (Nat.le_refl _) _⟩
            case measure => simp [intOf]; omega
        | false =>
          go_wp2_with fail
          have HD2 := hid (((HD.out.alloc (Obj.cells #[.int .i64 0, .int .i64 0, .bool false] 48)).alloc (Obj.cells #[.int .i64 0, .int .i64 0, .bool false] 48)).drew)
          go_region_law (first | (refine step_appRr _ (by rfl) (.tmp 38) (.tmp 40) (by rfl) w.heap.size v _ (by rfl) HD2.out.r (wr.heap.size + 1) (0, 0, false) (by rfl) ?_ ?_ ?_ ?_; (exact (blk_new2F _ _ _ _).drew); (simp; omega); (simp; omega); intro g cap w1 ho1 hgr hat hlt1; have hd1 := Blk.grown HD2.out.d hgr (fun e => HD2.out.dn e.symm); have d10 := hd1.cell 0; have d11 := hd1.cell 1; have d1f := hd1.frozen 1; have d1l := hd1.lt; simp at d10 d11))
          all_goals
            have HF := hid (dr_app HD2.out ho1 hgr hat)
            have hB1 : Below w.heap.size w (((wr.alloc (Obj.cells #[.int .i64 0, .int .i64 0, .bool false] 48)).alloc (Obj.cells #[.int .i64 0, .int .i64 0, .bool false] 48)).drew) := by
              have := hB.size
              (repeat (first | exact Below.refl _ _ | assumption | refine below_drewN ?_ _ | refine Below.drew ?_ | refine Below.alloc ?_ (by (try simp); (try omega)) _ | refine Below.setCell ?_ (by (try simp); (try omega)) _))
            have hB2 := hB1.grown hgr hB1.size (fun j hj => (HD2.out.r.lt j hj).1)
            simp only [List.length_map, List.length_take, Nat.min_eq_left (Nat.le_of_lt hlt)] at HF
            clear ho1 hgr hat hd1
            go_wp2_with fail
            go_roundw
            case rel => exact ⟨k + 1, _, by omega, by go_num, by rw [hsn.out]; exact HF.out, hB2.setCell (Nat.le_refl _) _⟩
            case measure => simp [intOf]; omega
      · obtain rfl : k = mine.length := by omega
        rw [List.take_length] at hD
        go_wp2_with fail
        go_ret
        exact ⟨w.heap.size, v, rfl, Nat.le_refl _, hD, hB⟩
set_option maxRecDepth 100000 in
set_option maxHeartbeats 1000000 in
theorem rnew_any (me : Int) (A : Option Addr) (c : Nat) (mine : List Bool) (w : World) (hl : mine.length ≤ maxLen) (hs : SlR w w.heap.size A mine) :
    Calls Tryd.prog 16 #[.int .i64 me, .slice A mine.length c] w (RNewRes w me (newL me mine)) := by
  unfold maxLen at hl
  by_cases hm : me = 0 ∨ me = 1
  · by_cases h2 : mine.length ≤ 200
    · rw [newL, if_pos ⟨hm, h2⟩]
      exact rnew_yes me A c mine w hm h2 hs
    · rw [newL, if_neg (fun h => h2 h.2)]
      have h3 : (200 : Int) < mine.length := by omega
      clear h2
      rcases hm with rfl | rfl
      all_goals
        go_enter Tryd.func16, Tryd.ntmps16
        go_wp2_with fail
        go_ret
        exact ⟨rfl, Below.refl _ _⟩
  · rw [newL, if_neg (fun h => hm h.1)]
    by_cases h0 : me < 0
    · clear hm
      go_enter Tryd.func16, Tryd.ntmps16
      go_wp2_with fail
      go_ret
      exact ⟨rfl, Below.refl _ _⟩
    · have h1 : 1 < me := by omega
      clear hm
      go_enter Tryd.func16, Tryd.ntmps16
      go_wp2_with fail
      go_ret
      exact ⟨rfl, Below.refl _ _⟩
end Go.Proofs.YtfofmbmmighdiaaDoor
