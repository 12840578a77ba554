
/- Seam: the reference's Read of a desk's encoding (printed by gen_seamri.py). -/
import Derived.Test.YtfofmbmmighdiaaDoorSeamRa
import Derived.Test.YtfofmbmmighdiaaDoorSeamT
import Derived.Test.YtfofmbmmighdiaaDoorSeamJ
import Derived.Test.YtfofmbmmighdiaaDoorWireUr
set_option linter.unusedSimpArgs false
set_option linter.unusedVariables false
namespace Go.Proofs.YtfofmbmmighdiaaDoor
open Go.RowKit Go.IntWalk

def RRdk (w : World) (me : Int) (rs : List Rob) (e : Ending) (w' : World) : Prop := ∃ b v, e = .returned (.tuple #[.pointer (some ⟨b, 0, none⟩), .bool true]) ∧ w.heap.size ≤ b ∧ Dr w' w.heap.size b v me rs ∧ Below w.heap.size w w'
theorem Dr.rdr {w w' : World} {base b g : Nat} {v : Value} {me : Int} {rs : List Rob} {l : List UInt8} {bad : Bool} (h : Dr w base b v me rs) (hR : Rr w g l bad) (hg : w.grownBy w' (some g)) : Dr w' base b v me rs :=
  h.grown hg (.inr (own_blk_ne h.r hR (by decide))) (fun e => by
    injection e with e
    subst e
    exact Blk.ne_ h.d hR (by decide) rfl)
theorem Dr.far {w : World} {base b g : Nat} {v : Value} {me : Int} {rs : List Rob} (h : Dr w base b v me rs) (hb : b ≠ g) (hv : ∀ j, v.ownBlock = some j → j ≠ g) (i : Nat) (u : Value) : Dr (w.setCell ⟨g, i, none⟩ u) base b v me rs :=
  h.grown (grown_s w g i u) (by
    cases hj : v.ownBlock with
    | none => exact .inl rfl
    | some j => exact .inr (fun e => hv j hj (by injection e))) (by simpa using hb)
theorem rrInt {b : Nat} {l : List UInt8} {v : Int} {r : List UInt8} {bad : Bool} (hf : fI l = some (v, r)) (hl : l.length ≤ 1000000000000) (W : World) (h : Rr W b l bad) :
    Calls Tryd.prog 44 #[.pointer (some ⟨b, 0, none⟩)] W fun e w' => e = .returned (.int .i64 v) ∧ Rr w' b r bad ∧ W.grownBy w' (some b) := by
  have := intRr_any b l bad W h hl
  rw [show numL l 59 (-9223372036854775808) = some (v, r) from hf] at this
  exact this
theorem Blk.rdr {w w' : World} {g b : Nat} {t : TypeId} {cs : Array Value} {l : List UInt8} {bad : Bool} (h : Blk w g t cs) (hR : Rr w b l bad) (ht : t ≠ 115) (hg : w.grownBy w' (some b)) : Blk w' g t cs :=
  h.grown hg (fun e => by injection e with e; subst e; exact Blk.ne_ h hR ht rfl)
set_option maxRecDepth 100000 in
set_option maxHeartbeats 4000000 in
theorem rrdesk_yes (me : Int) (rs : List Rob) (w : World) (hme : me = 0 ∨ me = 1) (h : ∀ r ∈ rs, RobOK 2199023255552 r) (hn : rs.length ≤ 200) :
    Calls Tryd.prog 12 #[.string (bs (encD me rs))] w (RRdk w me rs) := by
  have hmI : I64 me := by rcases hme with rfl | rfl <;> simp [I64]
  have hRI : ∀ r ∈ rs, RobI r := fun r hr => ⟨⟨by have := (h r hr).p; omega, by have := (h r hr).p; omega⟩, ⟨by have := (h r hr).n; omega, by have := (h r hr).n; omega⟩⟩
  obtain ⟨e1, e2, _⟩ := readD_enc me rs hmI hRI (by omega)
  have hfl := flat66 (rs.map encRb) (by
    intro y hy
    obtain ⟨x, hx, rfl⟩ := List.mem_map.1 hy
    exact encRb_le x (hRI x hx))
  rw [List.length_map] at hfl
  have hl2 : (encI rs.length ++ (rs.map encRb).flatten).length ≤ 20000 := by
    have := encI_le rs.length ⟨by omega, by omega⟩
    rw [List.length_append]; omega
  have hl1 : (encD me rs).length ≤ 20000 := by
    have := encI_le me hmI
    have := encI_le rs.length ⟨by omega, by omega⟩
    simp only [encD, encDh, List.length_append]; omega
  have H := hid h
  have HRI := hid hRI
  have E1 := hid e1
  have E2 := hid e2
  clear h hRI e1 e2
  go_enter Tryd.func12, Tryd.ntmps12
  go_wp2_with fail
  refine (openR_any _ w).mono ?_
  rw [show (bs (encD me rs)).data.toList = encD me rs by simp [bs]]
  rintro e w1 ⟨rfl, hR, hB⟩
  have hB1 := hid hB
  clear hB
  go_wp2_with fail
  refine (rrInt E1.out (by omega) _ hR).mono ?_
  rintro e w2 ⟨rfl, hR2, hg⟩
  have hB2 := hid (bg hB1.out hg (Nat.le_refl _))
  have hz2 := hR2.lt
  clear hR hB1 hg
  have hD3 : Hid (Dr (w2.alloc (Obj.cells #[.int .i64 me, .slice none 0 0] 53)) w.heap.size w2.heap.size (.slice none 0 0) me []) := hid ⟨Blk.new _ _ _, ⟨rfl, .inl ⟨rfl, rfl⟩⟩⟩
  have hR3 : Rr (w2.alloc (Obj.cells #[.int .i64 me, .slice none 0 0] 53)) w.heap.size (encI rs.length ++ (rs.map encRb).flatten) false := Blk.alloc hR2 _
  have hB3 := hid (hB2.out.alloc hB2.out.size (Obj.cells #[.int .i64 me, .slice none 0 0] 53))
  have hw2 := hid hB2.out.size
  clear hR2 hB2
  go_wp2_with fail
  have hnum := numRr_any w.heap.size (encI rs.length ++ (rs.map encRb).flatten) false _ hR3 (by omega)
  rw [E2.out] at hnum
  refine hnum.mono ?_
  rintro e w4 ⟨rfl, hR4, hg⟩
  have hB4 := hid (bg hB3.out hg (Nat.le_refl _))
  have hD4 := hid (hD3.out.rdr hR3 hg)
  clear hR3 hB3 hD3 hg hnum
  generalize w2.heap.size = bd at *
  go_wp2_with fail
  go_loopw [7] (fun i wr => ∃ (k : Nat) (v : Value), k ≤ rs.length ∧ i = .int .i64 k ∧ Dr wr w.heap.size bd v me (rs.take k) ∧ Rr wr w.heap.size ((rs.drop k).map encRb).flatten false ∧ Below w.heap.size w wr) (fun i _ => rs.length - (intOf i).toNat)
  case atStart => exact ⟨0, _, by omega, rfl, by simpa using hD4.out, by simpa using hR4, hB4.out⟩
  case round =>
    clear hR4 hB4 hD4
    obtain ⟨k, v, hk, rfl, hD, hR, hB⟩ := hrel
    by_cases hlt : k < rs.length
    · have hfl2 := flat66 ((rs.drop (k + 1)).map encRb) (by
        intro y hy
        obtain ⟨x, hx, rfl⟩ := List.mem_map.1 hy
        exact encRb_le x (HRI.out x (List.mem_of_mem_drop hx)))
      rw [List.length_map, List.length_drop] at hfl2
      have hsn := hid (show rs.take (k + 1) = rs.take k ++ [rs[k]] by rw [List.take_add_one, List.getElem?_eq_getElem hlt]; rfl)
      have hdr : ((rs.drop k).map encRb).flatten = encRb rs[k] ++ ((rs.drop (k + 1)).map encRb).flatten := by rw [List.drop_eq_getElem_cons hlt, List.map_cons, List.flatten_cons]
      rw [hdr] at hR
      clear hdr
      have hok := H.out _ (List.getElem_mem hlt)
      have hri := HRI.out _ (List.getElem_mem hlt)
      generalize rs[k] = r at *
      have hrl := encRb_le r hri
      obtain ⟨f1, f2, f3⟩ := int3 r hri ((rs.drop (k + 1)).map encRb).flatten
      have hrpos : 0 < (encRb r).length := by simp only [encRb, encI, List.length_append, List.length_cons, List.length_nil]; omega
      obtain ⟨p, n, f⟩ := r
      simp only at f1 f2 f3
      have hp := hok.p
      have hnn := hok.n
      have hf0 := hok.f
      simp only at hp hnn hf0
      have F1 := hid f1
      have F2 := hid f2
      have F3 := hid f3
      clear f1 f2 f3 hok
      have l0 : (encRb (p, n, f) ++ ((rs.drop (k + 1)).map encRb).flatten).length ≤ 20000 := by rw [List.length_append]; omega
      have l0p : (0 : Int) < ((encRb (p, n, f) ++ ((rs.drop (k + 1)).map encRb).flatten).length : Int) := by rw [List.length_append]; omega
      have L2 := hid (show (encI n ++ (encI (fb f) ++ ((rs.drop (k + 1)).map encRb).flatten)).length ≤ 1000000000000 by
        have := encI_le n hri.2; have := encI_le (fb f) (by unfold fb I64; split <;> omega)
        simp only [List.length_append]; omega)
      have L3 := hid (show (encI (fb f) ++ ((rs.drop (k + 1)).map encRb).flatten).length ≤ 1000000000000 by
        have := encI_le (fb f) (by unfold fb I64; split <;> omega)
        simp only [List.length_append]; omega)
      have hlt' : (k : Int) < rs.length := by omega
      have HD := hid hD
      have HB := hid hB
      clear hD hB
      go_wp2_with fail
      refine (leftR_any _ _ _ _ hR).mono ?_
      rintro e w4 ⟨rfl, hB4⟩
      have R4 : Rr w4 w.heap.size _ false := Blk.below hR hB4 hR.lt
      have B4 := hid (HB.out.trans (hB4.mono HB.out.size))
      have H4 := hid (HD.out.below hB4)
      clear hR hB4 HD HB
      go_wp2_with fail
      refine (rrInt F1.out (by omega) _ R4).mono ?_
      rintro e w5 ⟨rfl, R5, hg⟩
      have B5 := hid ((bg B4.out hg (Nat.le_refl _)).alloc (bg B4.out hg (Nat.le_refl _)).size (Obj.cells #[.int .i64 p, .int .i64 0, .bool false] 48))
      have H5 := hid ((H4.out.rdr R4 hg).alloc (Obj.cells #[.int .i64 p, .int .i64 0, .bool false] 48))
      have X5 := hid (Blk.new w5 48 #[.int .i64 p, .int .i64 0, .bool false])
      have R5' : Rr (w5.alloc (Obj.cells #[.int .i64 p, .int .i64 0, .bool false] 48)) w.heap.size _ false := Blk.alloc R5 _
      have NX := hid (fun j (hj : v.ownBlock = some j) => ((H4.out.rdr R4 hg).r.lt j hj).2)
      have hbx : bd < w5.heap.size := (H4.out.rdr R4 hg).d.lt
      have hwx : w.heap.size < w5.heap.size := R5.lt
      clear R4 B4 H4 hg R5
      go_wp2_with fail
      refine (rrInt F2.out L2.out _ R5').mono ?_
      rintro e w6 ⟨rfl, R6, hg⟩
      have B6 := hid (bg B5.out hg (Nat.le_refl _))
      have H6 := hid (H5.out.rdr R5' hg)
      have X6 := hid (X5.out.rdr R5' (by decide) hg)
      clear R5' B5 H5 X5 hg
      generalize w5.heap.size = gx at *
      have t1 := X6.out.cell 1; have tf1 := X6.out.frozen 1; have tl := X6.out.lt
      simp at t1
      go_wp2_with fail
      have R6' : Rr (w6.setCell ⟨gx, 1, none⟩ (.int .i64 n)) w.heap.size _ false := Blk.far R6 (by simp; omega) _
      have B6' := hid (B6.out.setCell (p := ⟨gx, 1, none⟩) (by simp; omega) (.int .i64 n))
      have H6' := hid (H6.out.far (g := gx) (by omega) (fun j hj => by have := NX.out j hj; omega) 1 (.int .i64 n))
      have X6' := hid (show Blk (w6.setCell ⟨gx, 1, none⟩ (.int .i64 n)) gx 48 #[.int .i64 p, .int .i64 n, .bool false] by simpa using X6.out.set_ 1 (.int .i64 n))
      clear R6 B6 H6 X6 t1 tf1 tl
      refine (rrInt F3.out L3.out _ R6').mono ?_
      rintro e w7 ⟨rfl, R7, hg⟩
      have B7 := hid (bg B6'.out hg (Nat.le_refl _))
      have H7 := hid (H6'.out.rdr R6' hg)
      have X7 := hid (X6'.out.rdr R6' (by decide) hg)
      clear R6' B6' H6' X6' hg F1 F2 F3 L2 L3 l0 l0p
      obtain ⟨d0, d1⟩ := dr2 H7.out
      have e0 := H7.out.d.frozen 0; have e1 := H7.out.d.frozen 1
      have hzd := H7.out.d.lt
      obtain ⟨x0, x1, x2⟩ := box3 X7.out
      have y0 := X7.out.frozen 0; have y1 := X7.out.frozen 1; have y2 := X7.out.frozen 2
      have hzx := X7.out.lt
      have hgb1 : ¬ gx = bd := by omega
      have hgb2 : ¬ bd = gx := by omega
      have hbz := B7.out.size
      cases f with
        | true =>
          have hp00 : p = 0 := hf0 rfl
          subst hp00
          have HF7 := hid (H7.out.far (g := gx) (by omega) (fun j hj => by have := NX.out j hj; omega) 2 (.bool true))
          have HD2 := hid ((HF7.out.alloc (Obj.cells #[.int .i64 0, .int .i64 n, .bool true] 48)).drew)
          have hBq : Below w.heap.size w (((w7.setCell ⟨gx, 2, none⟩ (.bool true)).alloc (Obj.cells #[.int .i64 0, .int .i64 n, .bool true] 48)).drew) := by
            have := B7.out.size
            have := B7.out
            (repeat (first | exact Below.refl _ _ | assumption | refine below_drewN ?_ _ | refine Below.drew ?_ | refine Below.alloc ?_ (by (try simp); (try omega)) _ | refine Below.setCell ?_ (by (try simp); (try omega)) _))
          have hRq : Rr (((w7.setCell ⟨gx, 2, none⟩ (.bool true)).alloc (Obj.cells #[.int .i64 0, .int .i64 n, .bool true] 48)).drew) w.heap.size (((rs.drop (k + 1)).map encRb).flatten) false := Blk.drew (Blk.alloc (Blk.far R7 (by simp; omega) _) _)
          go_wp2_with fail
          go_region_law (first | (refine step_appRr _ (by rfl) (.tmp 78) (.tmp 80) (by rfl) w.heap.size v _ (by rfl) HD2.out.r w7.heap.size (0, n, true) (by rfl) ?_ ?_ ?_ ?_; (exact (Blk.new_at (by simp)).drew); (simp; omega); (simp; omega); intro g cap w8 ho1 hgr hat hlt1; have hd1 := Blk.grown HD2.out.d hgr (fun e => HD2.out.dn e.symm); have d10 := hd1.cell 0; have d11 := hd1.cell 1; have d1f := hd1.frozen 1; have d1l := hd1.lt; simp at d10 d11))
          all_goals
            have HF := hid (dr_app HD2.out ho1 hgr hat)
            have hB8 := hBq.grown hgr hBq.size (fun j hj => (HD2.out.r.lt j hj).1)
            have hR8 : Rr (w8.setCell ⟨bd, 1, none⟩ (.slice (some ⟨g, 0, none⟩) ((rs.take k).length + 1) cap)) w.heap.size (((rs.drop (k + 1)).map encRb).flatten) false := Blk.far (Blk.grown hRq hgr (fun e => own_blk_ne HD2.out.r hRq (by decide) e.symm)) (by simp; omega) _
            clear ho1 hgr hat hd1 hBq hRq
            simp only [List.length_take, Nat.min_eq_left (Nat.le_of_lt hlt)] at HF hR8
            go_wp2_with fail
            go_roundw
            case rel =>
              refine ⟨k + 1, .slice (some ⟨g, 0, none⟩) (k + 1) cap, by omega, by go_num, ?_, ?_, ?_⟩
              · rw [hsn.out]
                with_reducible exact HF.out
              · with_reducible exact hR8
              · with_reducible exact hB8.setCell hw2.out _
            case measure => simp [intOf]; omega
        | false =>
          have HF7 := hid (H7.out.far (g := gx) (by omega) (fun j hj => by have := NX.out j hj; omega) 2 (.bool false))
          have HD2 := hid ((HF7.out.alloc (Obj.cells #[.int .i64 p, .int .i64 n, .bool false] 48)).drew)
          have hBq : Below w.heap.size w (((w7.setCell ⟨gx, 2, none⟩ (.bool false)).alloc (Obj.cells #[.int .i64 p, .int .i64 n, .bool false] 48)).drew) := by
            have := B7.out.size
            have := B7.out
            (repeat (first | exact Below.refl _ _ | assumption | refine below_drewN ?_ _ | refine Below.drew ?_ | refine Below.alloc ?_ (by (try simp); (try omega)) _ | refine Below.setCell ?_ (by (try simp); (try omega)) _))
          have hRq : Rr (((w7.setCell ⟨gx, 2, none⟩ (.bool false)).alloc (Obj.cells #[.int .i64 p, .int .i64 n, .bool false] 48)).drew) w.heap.size (((rs.drop (k + 1)).map encRb).flatten) false := Blk.drew (Blk.alloc (Blk.far R7 (by simp; omega) _) _)
          go_wp2_with fail
          go_region_law (first | (refine step_appRr _ (by rfl) (.tmp 78) (.tmp 80) (by rfl) w.heap.size v _ (by rfl) HD2.out.r w7.heap.size (p, n, false) (by rfl) ?_ ?_ ?_ ?_; (exact (Blk.new_at (by simp)).drew); (simp; omega); (simp; omega); intro g cap w8 ho1 hgr hat hlt1; have hd1 := Blk.grown HD2.out.d hgr (fun e => HD2.out.dn e.symm); have d10 := hd1.cell 0; have d11 := hd1.cell 1; have d1f := hd1.frozen 1; have d1l := hd1.lt; simp at d10 d11))
          all_goals
            have HF := hid (dr_app HD2.out ho1 hgr hat)
            have hB8 := hBq.grown hgr hBq.size (fun j hj => (HD2.out.r.lt j hj).1)
            have hR8 : Rr (w8.setCell ⟨bd, 1, none⟩ (.slice (some ⟨g, 0, none⟩) ((rs.take k).length + 1) cap)) w.heap.size (((rs.drop (k + 1)).map encRb).flatten) false := Blk.far (Blk.grown hRq hgr (fun e => own_blk_ne HD2.out.r hRq (by decide) e.symm)) (by simp; omega) _
            clear ho1 hgr hat hd1 hBq hRq
            simp only [List.length_take, Nat.min_eq_left (Nat.le_of_lt hlt)] at HF hR8
            go_wp2_with fail
            go_roundw
            case rel =>
              refine ⟨k + 1, .slice (some ⟨g, 0, none⟩) (k + 1) cap, by omega, by go_num, ?_, ?_, ?_⟩
              · rw [hsn.out]
                with_reducible exact HF.out
              · with_reducible exact hR8
              · with_reducible exact hB8.setCell hw2.out _
            case measure => simp [intOf]; omega
    · obtain rfl : k = rs.length := by omega
      rw [List.take_length] at hD
      rw [List.drop_length] at hR
      have hR : Rr wr w.heap.size [] false := hR
      have HD := hid hD
      have HB := hid hB
      clear hD hB
      go_wp2_with fail
      refine (doneR_any _ _ _ _ hR).mono ?_
      rintro e w4 ⟨rfl, hB4⟩
      have H4 := hid (HD.out.below hB4)
      have B4 := hid (HB.out.trans (hB4.mono HB.out.size))
      clear hB4 HD HB hR
      obtain ⟨A, c, rfl, _, _, _⟩ := H4.out.row
      obtain ⟨d0, d1⟩ := dr2 H4.out
      have hz4 := H4.out.d.lt
      have hnn : ¬ (200 : Int) < rs.length := by omega
      rcases hme with rfl | rfl
      all_goals
        go_wp2_with fail
        go_ret2
        exact ⟨bd, _, rfl, hw2.out, H4.out, B4.out⟩
end Go.Proofs.YtfofmbmmighdiaaDoor
