
/- Seam: New. -/
import Derived.Test.YtfofmbmmighdiaaDoorSeamD
import Derived.Deep.AppendLies
import Derived.Deep.RegionLaw
set_option linter.unusedSimpArgs false
set_option linter.unusedVariables false
namespace Go.Proofs.YtfofmbmmighdiaaDoor
open Go.RowKit Go.IntWalk

theorem infoRob : (Tryd.prog.info? 85).map (fun i => (i.zero, i.size, i.bytes)) = some (some (.agg #[.int .i64 0, .int .i64 0, .bool false]), 3, 24) := by kernel_rfl
theorem step_appR {ops : Array Oper} {o : Oper} {a : Act} {K : Act → World → Prop} {Q : Exit → Act → World → Prop} {E : Prop} (w : World) (hgd : o.guard = none) (s x : Operand)
    (ho : o.op = .call { callee := .builtin .append, args := #[s, x], argTypes := #[81, 81] })
    (base : Nat) (v : Value) (rs : List Rob) (hs : a.eval s = v) (hown : w.ownsRow base 85 3 v rs.length (rc rs)) (B : Nat) (r : Rob) (hx : a.eval x = .slice (some ⟨B, 0, none⟩) 1 1)
    (hb : Blk w B 85 #[.int .i64 r.1, .int .i64 r.2.1, .bool r.2.2]) (hlen : rs.length ≤ 1000000) (hbase : base ≤ w.heap.size)
    (h : ∀ g cap w', w'.ownsRow base 85 3 (.slice (some ⟨g, 0, none⟩) (rs.length + 1) cap) (rs ++ [r]).length (rc (rs ++ [r])) → w.grownBy w' v.ownBlock → (v.ownBlock = some g ∨ g = w.heap.size) → g < w'.heap.size → K (a.put o.dst (.slice (some ⟨g, 0, none⟩) (rs.length + 1) cap)) w') :
    if Region.wanted o (yielded ops a.tmps) = true then Oper.wp Tryd.prog o a w K Q else E := by
  obtain ⟨i0, hi, hz0, hz1, hz2⟩ := info_parts infoRob
  refine step_append_lies w hgd s x 81 ho base 85 i0 _ 3 24 Tryd.underlying81 hi hz0 hz1 hz2 rfl (by omega) v rs.length (rc rs) hs hown ⟨B, 0, none⟩ 1 1 [.int .i64 r.1, .int .i64 r.2.1, .bool r.2.2] hx rfl ?_ ?_ (by omega) (by unfold maxLen; omega) (by omega) hbase _ rfl ?_
  · exact World.news_of_block (w := w) (B := B) hb
  · intro u hu
    simp at hu
    rcases hu with rfl | rfl | rfl <;> simp [Value.oneCell']
  · intro g cap w' h1 h2 h3 h4
    refine h g cap w' ?_ h2 h3 h4
    rw [rc_app, List.length_append]
    exact h1
theorem blk_new2F (w : World) (o : Obj) (t : TypeId) (cs : Array Value) : Blk ((w.alloc o).alloc (.cells cs t)) (w.heap.size + 1) t cs := Blk.new_at (by simp)
def newL (me : Int) (mine : List Bool) : Option (List Rob) := if (me = 0 ∨ me = 1) ∧ mine.length ≤ 200 then some (mine.map fun x => (if x then 1 else 0, 0, false)) else none
theorem map_snocR (mine : List Bool) (k : Nat) (h : k < mine.length) : (mine.take (k + 1)).map (fun x => ((if x then 1 else 0, 0, false) : Rob)) = (mine.take k).map (fun x => ((if x then 1 else 0, 0, false) : Rob)) ++ [(if mine[k] then 1 else 0, 0, false)] := by
  rw [List.take_add_one, List.getElem?_eq_getElem h, List.map_append]; rfl
theorem Dk.dn {w : World} {base b : Nat} {v : Value} {me : Int} {rs : List Rob} (h : Dk w base b v me rs) : v.ownBlock ≠ some b := own_blk_ne h.r h.d (by decide)
theorem Dk.alloc {w : World} {base b : Nat} {v : Value} {me : Int} {rs : List Rob} (h : Dk w base b v me rs) (o : Obj) : Dk (w.alloc o) base b v me rs := h.below (by (repeat (first | exact Below.refl _ _ | assumption | refine below_drewN ?_ _ | refine Below.drew ?_ | refine Below.alloc ?_ (by (try simp); (try omega)) _ | refine Below.setCell ?_ (by (try simp); (try omega)) _)))
theorem Dk.drew {w : World} {base b : Nat} {v : Value} {me : Int} {rs : List Rob} (h : Dk w base b v me rs) : Dk w.drew base b v me rs := ⟨h.d, h.r⟩
theorem dk_app {W w1 : World} {base b : Nat} {v : Value} {me : Int} {rs : List Rob} {r : Rob} {g cap : Nat} (hD : Dk W base b v me rs)
    (ho : w1.ownsRow base 85 3 (.slice (some ⟨g, 0, none⟩) (rs.length + 1) cap) (rs ++ [r]).length (rc (rs ++ [r]))) (hgr : W.grownBy w1 v.ownBlock) (hat : v.ownBlock = some g ∨ g = W.heap.size) :
    Dk (w1.setCell ⟨b, 1, none⟩ (.slice (some ⟨g, 0, none⟩) (rs.length + 1) cap)) base b (.slice (some ⟨g, 0, none⟩) (rs.length + 1) cap) me (rs ++ [r]) := by
  have hlt := hD.d.lt
  have hgb : g ≠ b := by
    rcases hat with h | h
    · rintro rfl; exact hD.dn h
    · omega
  refine ⟨?_, ho.kept (grown_s w1 b 1 _) (.inr ?_)⟩
  · have := (Blk.grown hD.d hgr (fun e => hD.dn e.symm)).set_ 1 (.slice (some ⟨g, 0, none⟩) (rs.length + 1) cap)
    simpa using this
  · simpa [Value.ownBlock] using hgb
/-- A desk that was made. -/
def NewRes (w : World) (me : Int) (r : Option (List Rob)) (e : Ending) (w' : World) : Prop :=
  match r with
  | some rs => ∃ b v, e = .returned (.pointer (some ⟨b, 0, none⟩)) ∧ w.heap.size ≤ b ∧ Dk w' w.heap.size b v me rs ∧ Below w.heap.size w w'
  | none => e = .returned (.pointer none) ∧ Below w.heap.size w w'
set_option maxRecDepth 100000 in
set_option maxHeartbeats 2000000 in
theorem new_yes (me : Int) (A : Option Addr) (c : Nat) (mine : List Bool) (w : World) (hm : me = 0 ∨ me = 1) (hl : mine.length ≤ 200) (hs : SlR w w.heap.size A mine) :
    Calls Tryd.prog 15 #[.int .i64 me, .slice A mine.length c] w (NewRes w me (some (mine.map fun x => (if x then 1 else 0, 0, false)))) := by
  have hm0 : me = 0 ∨ (me == 0) = false := by rcases hm with rfl | rfl <;> simp
  have b0 := hid (Blk.new w 83 #[.int .i64 me, .slice none 0 0])
  have hb0 := hid (show Below w.heap.size w (w.alloc (Obj.cells #[.int .i64 me, .slice none 0 0] 83)) by (repeat (first | exact Below.refl _ _ | assumption | refine below_drewN ?_ _ | refine Below.drew ?_ | refine Below.alloc ?_ (by (try simp); (try omega)) _ | refine Below.setCell ?_ (by (try simp); (try omega)) _)))
  rcases hm with rfl | rfl
  all_goals
    clear hm0
    go_enter Tryd.func15, Tryd.ntmps15
    go_wp2_with fail
    go_loopw [25] (fun i wr => ∃ (k : Nat) (v : Value), k ≤ mine.length ∧ i = .int .i64 k ∧ Dk wr w.heap.size w.heap.size v _ ((mine.take k).map fun x => (if x then 1 else 0, 0, false)) ∧ Below w.heap.size w wr) (fun i _ => mine.length - (intOf i).toNat)
    case atStart => exact ⟨0, _, by omega, rfl, ⟨b0.out, ⟨rfl, .inl ⟨rfl, rfl⟩⟩⟩, hb0.out⟩
    case round =>
      obtain ⟨k, v, hk, rfl, hD, hB⟩ := hrel
      by_cases hlt : k < mine.length
      · obtain ⟨b9, o9, rfl, _, g1⟩ := (hs.below hB).bool hlt
        have hsn := hid (map_snocR mine k hlt)
        have hlt' : (k : Int) < mine.length := by omega
        generalize mine[k] = x at *
        obtain ⟨d0, d1⟩ := dk2 hD
        have e0 := hD.d.frozen 0; have e1 := hD.d.frozen 1
        have hzd := hD.d.lt
        have HD := hid hD
        clear hD
        cases x with
        | true =>
          go_upto_region 10 with fail
          have HD2 := hid (((HD.out.alloc (Obj.cells #[.int .i64 1, .int .i64 0, .bool false] 85)).alloc (Obj.cells #[.int .i64 1, .int .i64 0, .bool false] 85)).drew)
          go_region_law (first | (refine step_appR _ (by rfl) (.tmp 36) (.tmp 38) (by rfl) w.heap.size v _ (by rfl) HD2.out.r (wr.heap.size + 1) (1, 0, false) (by rfl) ?_ ?_ ?_ ?_; (exact (blk_new2F _ _ _ _).drew); (simp; omega); (simp; omega); intro g cap w1 ho1 hgr hat hlt1; have hd1 := Blk.grown HD2.out.d hgr (fun e => HD2.out.dn e.symm); have d10 := hd1.cell 0; have d11 := hd1.cell 1; have d1f := hd1.frozen 1; have d1l := hd1.lt; simp at d10 d11))
          all_goals
            have HF := hid (dk_app HD2.out ho1 hgr hat)
            have hB1 : Below w.heap.size w (((wr.alloc (Obj.cells #[.int .i64 1, .int .i64 0, .bool false] 85)).alloc (Obj.cells #[.int .i64 1, .int .i64 0, .bool false] 85)).drew) := by
              have := hB.size
              (repeat (first | exact Below.refl _ _ | assumption | refine below_drewN ?_ _ | refine Below.drew ?_ | refine Below.alloc ?_ (by (try simp); (try omega)) _ | refine Below.setCell ?_ (by (try simp); (try omega)) _))
            have hB2 := hB1.grown hgr hB1.size (fun j hj => (HD2.out.r.lt j hj).1)
            simp only [List.length_map, List.length_take, Nat.min_eq_left (Nat.le_of_lt hlt)] at HF
            clear ho1 hgr hat hd1
            go_wp2_with fail
            go_roundw
            case rel => exact ⟨k + 1, _, by omega, by go_num, by rw [hsn.out]; exact HF.out, hB2.setCell (Nat.le_refl _) _⟩
            case measure => simp [intOf]; omega
        | false =>
          go_upto_region 10 with fail
          have HD2 := hid (((HD.out.alloc (Obj.cells #[.int .i64 0, .int .i64 0, .bool false] 85)).alloc (Obj.cells #[.int .i64 0, .int .i64 0, .bool false] 85)).drew)
          go_region_law (first | (refine step_appR _ (by rfl) (.tmp 36) (.tmp 38) (by rfl) w.heap.size v _ (by rfl) HD2.out.r (wr.heap.size + 1) (0, 0, false) (by rfl) ?_ ?_ ?_ ?_; (exact (blk_new2F _ _ _ _).drew); (simp; omega); (simp; omega); intro g cap w1 ho1 hgr hat hlt1; have hd1 := Blk.grown HD2.out.d hgr (fun e => HD2.out.dn e.symm); have d10 := hd1.cell 0; have d11 := hd1.cell 1; have d1f := hd1.frozen 1; have d1l := hd1.lt; simp at d10 d11))
          all_goals
            have HF := hid (dk_app HD2.out ho1 hgr hat)
            have hB1 : Below w.heap.size w (((wr.alloc (Obj.cells #[.int .i64 0, .int .i64 0, .bool false] 85)).alloc (Obj.cells #[.int .i64 0, .int .i64 0, .bool false] 85)).drew) := by
              have := hB.size
              (repeat (first | exact Below.refl _ _ | assumption | refine below_drewN ?_ _ | refine Below.drew ?_ | refine Below.alloc ?_ (by (try simp); (try omega)) _ | refine Below.setCell ?_ (by (try simp); (try omega)) _))
            have hB2 := hB1.grown hgr hB1.size (fun j hj => (HD2.out.r.lt j hj).1)
            simp only [List.length_map, List.length_take, Nat.min_eq_left (Nat.le_of_lt hlt)] at HF
            clear ho1 hgr hat hd1
            go_wp2_with fail
            go_roundw
            case rel => exact ⟨k + 1, _, by omega, by go_num, by rw [hsn.out]; exact HF.out, hB2.setCell (Nat.le_refl _) _⟩
            case measure => simp [intOf]; omega
      · obtain rfl : k = mine.length := by omega
        rw [List.take_length] at hD
        go_wp2_with fail
        go_ret
        exact ⟨w.heap.size, v, rfl, Nat.le_refl _, hD, hB⟩
end Go.Proofs.YtfofmbmmighdiaaDoor
