
/- Seam: Read of a desk's Bytes. -/
import Derived.Test.YtfofmbmmighdiaaDoorSeamP
set_option linter.unusedSimpArgs false
set_option linter.unusedVariables false
namespace Go.Proofs.YtfofmbmmighdiaaDoor
open Go.RowKit Go.IntWalk

def RdkRes (w : World) (me : Int) (rs : List Rob) (e : Ending) (w' : World) : Prop := ∃ b v, e = .returned (.tuple #[.pointer (some ⟨b, 0, none⟩), .bool true]) ∧ w.heap.size ≤ b ∧ Dk w' w.heap.size b v me rs ∧ Below w.heap.size w w'
theorem Dk.rdr {w w' : World} {base b g : Nat} {v : Value} {me : Int} {rs : List Rob} {l : List UInt8} {bad : Bool} (h : Dk w base b v me rs) (hR : Rd w g l bad) (hg : w.grownBy w' (some g)) : Dk w' base b v me rs :=
  h.grown hg (.inr (own_blk_ne h.r hR (by decide))) (fun e => by
    injection e with e
    subst e
    exact Blk.ne_ h.d hR (by decide) rfl)
theorem int3 (r : Rob) (h : RobI r) (rest : List UInt8) : fI (encRb r ++ rest) = some (r.1, encI r.2.1 ++ (encI (fb r.2.2) ++ rest)) ∧ fI (encI r.2.1 ++ (encI (fb r.2.2) ++ rest)) = some (r.2.1, encI (fb r.2.2) ++ rest) ∧ fI (encI (fb r.2.2) ++ rest) = some (fb r.2.2, rest) := by
  refine ⟨?_, intL_enc r.2.1 h.2 _, intL_enc _ (by unfold fb I64; split <;> omega) _⟩
  unfold encRb
  rw [List.append_assoc, List.append_assoc]
  exact intL_enc r.1 h.1 _
theorem rdInt {b : Nat} {l : List UInt8} {v : Int} {r : List UInt8} (hf : fI l = some (v, r)) (hl : l.length ≤ 1000000000000) (W : World) (h : Rd W b l false) (he : Env W) :
    Calls Tryd.prog 41 #[.pointer (some ⟨b, 0, none⟩)] W fun e w' => e = .returned (.int .i64 v) ∧ Rd w' b r false ∧ W.grownBy w' (some b) := by
  have := int_any b l false W h hl he
  rw [show numL l 59 (-9223372036854775808) = some (v, r) from hf] at this
  exact this
theorem wrapj (j : Nat) (h : j ≤ 200) : wrap64 (j : Int) = j := by
  unfold wrap64; omega
theorem meas_g (x : Int) (j : Nat) (hx : x = j) : (intOf (Value.int .i64 x)).toNat < (intOf (Value.int .i64 ((j + 1 : Nat) : Int))).toNat := by
  subst hx
  simp [intOf]
theorem meas_j (j : Nat) (h : j ≤ 200) : (intOf (Value.int .i64 (wrap64 (j : Int)))).toNat < (intOf (Value.int .i64 ((j + 1 : Nat) : Int))).toNat := meas_g _ j (wrapj j h)
set_option maxRecDepth 100000 in
set_option maxHeartbeats 4000000 in
theorem rdesk_any (me : Int) (rs : List Rob) (w : World) (hme : me = 0 ∨ me = 1) (h : ∀ r ∈ rs, RobOK 2199023255552 r) (hn : rs.length ≤ 200) (he : Env w) :
    Calls Tryd.prog 11 #[.string (bs (encD me rs))] w (RdkRes w me rs) := by
  have hmI : I64 me := by rcases hme with rfl | rfl <;> simp [I64]
  have hRI : ∀ r ∈ rs, RobI r := fun r hr => ⟨⟨by have := (h r hr).p; omega, by have := (h r hr).p; omega⟩, ⟨by have := (h r hr).n; omega, by have := (h r hr).n; omega⟩⟩
  obtain ⟨e1, e2, _⟩ := readD_enc me rs hmI hRI (by omega)
  have hfl := flat66 (rs.map encRb) (by
    intro y hy
    obtain ⟨x, hx, rfl⟩ := List.mem_map.1 hy
    exact encRb_le x (hRI x hx))
  rw [List.length_map] at hfl
  have hl2 : (encI rs.length ++ (rs.map encRb).flatten).length ≤ 20000 := by
    have := encI_le rs.length ⟨by omega, by omega⟩
    rw [List.length_append]; omega
  have hl1 : (encD me rs).length ≤ 20000 := by
    have := encI_le me hmI
    have := encI_le rs.length ⟨by omega, by omega⟩
    simp only [encD, encDh, List.length_append]; omega
  have H := hid h
  have HRI := hid hRI
  have E1 := hid e1
  have E2 := hid e2
  clear h hRI e1 e2
  go_enter Tryd.func11, Tryd.ntmps11
  go_wp2_with fail
  refine (open_any _ w).mono ?_
  rw [show (bs (encD me rs)).data.toList = encD me rs by simp [bs]]
  rintro e w1 ⟨rfl, hR, hB⟩
  have hB1 := hid hB
  clear hB
  go_wp2_with fail
  refine (rdInt E1.out (by omega) _ hR (he.below hB1.out)).mono ?_
  rintro e w2 ⟨rfl, hR2, hg⟩
  have hB2 := hid (bg hB1.out hg (Nat.le_refl _))
  have hz2 := hR2.lt
  clear hR hB1 hg
  have hD3 : Hid (Dk (w2.alloc (Obj.cells #[.int .i64 me, .slice none 0 0] 83)) w.heap.size w2.heap.size (.slice none 0 0) me []) := hid ⟨Blk.new _ _ _, ⟨rfl, .inl ⟨rfl, rfl⟩⟩⟩
  have hR3 : Rd (w2.alloc (Obj.cells #[.int .i64 me, .slice none 0 0] 83)) w.heap.size (encI rs.length ++ (rs.map encRb).flatten) false := Blk.alloc hR2 _
  have hB3 := hid (hB2.out.alloc hB2.out.size (Obj.cells #[.int .i64 me, .slice none 0 0] 83))
  have hw2 := hid hB2.out.size
  clear hR2 hB2
  go_wp2_with fail
  have hnum := num_any w.heap.size (encI rs.length ++ (rs.map encRb).flatten) false _ hR3 (by omega) (he.below hB3.out)
  rw [E2.out] at hnum
  refine hnum.mono ?_
  rintro e w4 ⟨rfl, hR4, hg⟩
  have hB4 := hid (bg hB3.out hg (Nat.le_refl _))
  have hD4 := hid (hD3.out.rdr hR3 hg)
  clear hR3 hB3 hD3 hg hnum
  generalize w2.heap.size = bd at *
  go_wp2_with fail
  go_loopw [6] (fun i wr => ∃ (k : Nat) (v : Value), k ≤ rs.length ∧ i = .int .i64 ((rs.length - k : Nat) : Int) ∧ Dk wr w.heap.size bd v me (rs.take k) ∧ Rd wr w.heap.size ((rs.drop k).map encRb).flatten false ∧ Below w.heap.size w wr) (fun i _ => (intOf i).toNat)
  case atStart => exact ⟨0, _, by omega, by simp, by simpa using hD4.out, by simpa using hR4, hB4.out⟩
  case round =>
    clear hR4 hB4 hD4
    obtain ⟨k, v, hk, rfl, hD, hR, hB⟩ := hrel
    by_cases hlt : k < rs.length
    · have hfl2 := flat66 ((rs.drop (k + 1)).map encRb) (by
        intro y hy
        obtain ⟨x, hx, rfl⟩ := List.mem_map.1 hy
        exact encRb_le x (HRI.out x (List.mem_of_mem_drop hx)))
      rw [List.length_map, List.length_drop] at hfl2
      have hsn := hid (show rs.take (k + 1) = rs.take k ++ [rs[k]] by rw [List.take_add_one, List.getElem?_eq_getElem hlt]; rfl)
      have hdr : ((rs.drop k).map encRb).flatten = encRb rs[k] ++ ((rs.drop (k + 1)).map encRb).flatten := by rw [List.drop_eq_getElem_cons hlt, List.map_cons, List.flatten_cons]
      rw [hdr] at hR
      clear hdr
      have hok := H.out _ (List.getElem_mem hlt)
      have hri := HRI.out _ (List.getElem_mem hlt)
      generalize rs[k] = r at *
      have hrl := encRb_le r hri
      obtain ⟨f1, f2, f3⟩ := int3 r hri ((rs.drop (k + 1)).map encRb).flatten
      have hrpos : 0 < (encRb r).length := by simp only [encRb, encI, List.length_append, List.length_cons, List.length_nil]; omega
      obtain ⟨p, n, f⟩ := r
      simp only at f1 f2 f3
      have hp := hok.p
      have hnn := hok.n
      have hf0 := hok.f
      simp only at hp hnn hf0
      have F1 := hid f1
      have F2 := hid f2
      have F3 := hid f3
      clear f1 f2 f3 hok
      have l0 : (encRb (p, n, f) ++ ((rs.drop (k + 1)).map encRb).flatten).length ≤ 20000 := by rw [List.length_append]; omega
      have l0p : (0 : Int) < ((encRb (p, n, f) ++ ((rs.drop (k + 1)).map encRb).flatten).length : Int) := by rw [List.length_append]; omega
      have L2 := hid (show (encI n ++ (encI (fb f) ++ ((rs.drop (k + 1)).map encRb).flatten)).length ≤ 1000000000000 by
        have := encI_le n hri.2; have := encI_le (fb f) (by unfold fb I64; split <;> omega)
        simp only [List.length_append]; omega)
      have L3 := hid (show (encI (fb f) ++ ((rs.drop (k + 1)).map encRb).flatten).length ≤ 1000000000000 by
        have := encI_le (fb f) (by unfold fb I64; split <;> omega)
        simp only [List.length_append]; omega)
      obtain ⟨j, hj⟩ : ∃ j, rs.length - k = j + 1 := ⟨rs.length - k - 1, by omega⟩
      rw [hj]
      have Hj := hid hj
      clear hj
      have hjp : (0 : Int) < ((j + 1 : Nat) : Int) := by omega
      have HD := hid hD
      have HB := hid hB
      clear hD hB
      go_wp2_with fail
      refine (left_any _ _ _ _ hR).mono ?_
      rintro e w4 ⟨rfl, hB4⟩
      have R4 : Rd w4 w.heap.size _ false := Blk.below hR hB4 hR.lt
      have B4 := hid (HB.out.trans (hB4.mono HB.out.size))
      have H4 := hid (HD.out.below hB4)
      clear hR hB4 HD HB
      go_wp2_with fail
      refine (rdInt F1.out (by omega) _ R4 (he.below B4.out)).mono ?_
      rintro e w5 ⟨rfl, R5, hg⟩
      have B5 := hid (bg B4.out hg (Nat.le_refl _))
      have H5 := hid (H4.out.rdr R4 hg)
      clear R4 B4 H4 hg
      go_wp2_with fail
      refine (rdInt F2.out L2.out _ R5 (he.below B5.out)).mono ?_
      rintro e w6 ⟨rfl, R6, hg⟩
      have B6 := hid (bg B5.out hg (Nat.le_refl _))
      have H6 := hid (H5.out.rdr R5 hg)
      clear R5 B5 H5 hg
      go_wp2_with fail
      refine (rdInt F3.out L3.out _ R6 (he.below B6.out)).mono ?_
      rintro e w7 ⟨rfl, R7, hg⟩
      have B7 := hid (bg B6.out hg (Nat.le_refl _))
      have H7 := hid (H6.out.rdr R6 hg)
      clear R6 B6 H6 hg F1 F2 F3 L2 L3 l0 l0p
      obtain ⟨d0, d1⟩ := dk2 H7.out
      have e0 := H7.out.d.frozen 0; have e1 := H7.out.d.frozen 1
      have hzd := H7.out.d.lt
      cases f with
        | true =>
          have HD2 := hid (((H7.out.alloc (Obj.cells #[.int .i64 p, .int .i64 n, .bool true] 85)).alloc (Obj.cells #[.int .i64 p, .int .i64 n, .bool true] 85)).drew)
          have hBq : Below w.heap.size w (((w7.alloc (Obj.cells #[.int .i64 p, .int .i64 n, .bool true] 85)).alloc (Obj.cells #[.int .i64 p, .int .i64 n, .bool true] 85)).drew) := by
            have := B7.out.size
            have := B7.out
            (repeat (first | exact Below.refl _ _ | assumption | refine below_drewN ?_ _ | refine Below.drew ?_ | refine Below.alloc ?_ (by (try simp); (try omega)) _ | refine Below.setCell ?_ (by (try simp); (try omega)) _))
          have hRq : Rd (((w7.alloc (Obj.cells #[.int .i64 p, .int .i64 n, .bool true] 85)).alloc (Obj.cells #[.int .i64 p, .int .i64 n, .bool true] 85)).drew) w.heap.size (((rs.drop (k + 1)).map encRb).flatten) false := Blk.drew (Blk.alloc (Blk.alloc R7 _) _)
          have hp0 : true = true → p = 0 := hf0
          have hbz := B7.out.size
          have hp00 : p = 0 := hp0 rfl
          subst hp00
          clear hp0 hf0
          go_upto_region 9 with fail
          go_region_law (first | (refine step_appR _ (by rfl) (.tmp 64) (.tmp 66) (by rfl) w.heap.size v _ (by rfl) HD2.out.r (w7.heap.size + 1) (0, n, true) (by rfl) ?_ ?_ ?_ ?_; (exact (blk_new2F _ _ _ _).drew); (simp; omega); (simp; omega); intro g cap w8 ho1 hgr hat hlt1; have hd1 := Blk.grown HD2.out.d hgr (fun e => HD2.out.dn e.symm); have d10 := hd1.cell 0; have d11 := hd1.cell 1; have d1f := hd1.frozen 1; have d1l := hd1.lt; simp at d10 d11))
          all_goals
            have HF := hid (dk_app HD2.out ho1 hgr hat)
            have hB8 := hBq.grown hgr hBq.size (fun j hj => (HD2.out.r.lt j hj).1)
            have hR8 : Rd (w8.setCell ⟨bd, 1, none⟩ (.slice (some ⟨g, 0, none⟩) ((rs.take k).length + 1) cap)) w.heap.size (((rs.drop (k + 1)).map encRb).flatten) false := Blk.far (Blk.grown hRq hgr (fun e => own_blk_ne HD2.out.r hRq (by decide) e.symm)) (by simp; omega) _
            clear ho1 hgr hat hd1 hBq hRq
            simp only [List.length_take, Nat.min_eq_left (Nat.le_of_lt hlt)] at HF hR8
            go_wp2_with fail
            go_roundw
            case rel =>
              have hjj := Hj.out
              have hjl : j ≤ 200 := by omega
              refine ⟨k + 1, .slice (some ⟨g, 0, none⟩) (k + 1) cap, by omega, ?_, ?_, ?_, ?_⟩
              · rw [show rs.length - (k + 1) = j by omega, wrapj j hjl]
              · rw [hsn.out]
                with_reducible exact HF.out
              · with_reducible exact hR8
              · with_reducible exact hB8.setCell hw2.out _
            case measure =>
              have hjj := Hj.out
              have hjl : j ≤ 200 := by omega
              exact meas_j j hjl
        | false =>
          have HD2 := hid (((H7.out.alloc (Obj.cells #[.int .i64 p, .int .i64 n, .bool false] 85)).alloc (Obj.cells #[.int .i64 p, .int .i64 n, .bool false] 85)).drew)
          have hBq : Below w.heap.size w (((w7.alloc (Obj.cells #[.int .i64 p, .int .i64 n, .bool false] 85)).alloc (Obj.cells #[.int .i64 p, .int .i64 n, .bool false] 85)).drew) := by
            have := B7.out.size
            have := B7.out
            (repeat (first | exact Below.refl _ _ | assumption | refine below_drewN ?_ _ | refine Below.drew ?_ | refine Below.alloc ?_ (by (try simp); (try omega)) _ | refine Below.setCell ?_ (by (try simp); (try omega)) _))
          have hRq : Rd (((w7.alloc (Obj.cells #[.int .i64 p, .int .i64 n, .bool false] 85)).alloc (Obj.cells #[.int .i64 p, .int .i64 n, .bool false] 85)).drew) w.heap.size (((rs.drop (k + 1)).map encRb).flatten) false := Blk.drew (Blk.alloc (Blk.alloc R7 _) _)
          have hp0 : false = true → p = 0 := hf0
          have hbz := B7.out.size
          clear hp0 hf0
          go_upto_region 9 with fail
          go_region_law (first | (refine step_appR _ (by rfl) (.tmp 64) (.tmp 66) (by rfl) w.heap.size v _ (by rfl) HD2.out.r (w7.heap.size + 1) (p, n, false) (by rfl) ?_ ?_ ?_ ?_; (exact (blk_new2F _ _ _ _).drew); (simp; omega); (simp; omega); intro g cap w8 ho1 hgr hat hlt1; have hd1 := Blk.grown HD2.out.d hgr (fun e => HD2.out.dn e.symm); have d10 := hd1.cell 0; have d11 := hd1.cell 1; have d1f := hd1.frozen 1; have d1l := hd1.lt; simp at d10 d11))
          all_goals
            have HF := hid (dk_app HD2.out ho1 hgr hat)
            have hB8 := hBq.grown hgr hBq.size (fun j hj => (HD2.out.r.lt j hj).1)
            have hR8 : Rd (w8.setCell ⟨bd, 1, none⟩ (.slice (some ⟨g, 0, none⟩) ((rs.take k).length + 1) cap)) w.heap.size (((rs.drop (k + 1)).map encRb).flatten) false := Blk.far (Blk.grown hRq hgr (fun e => own_blk_ne HD2.out.r hRq (by decide) e.symm)) (by simp; omega) _
            clear ho1 hgr hat hd1 hBq hRq
            simp only [List.length_take, Nat.min_eq_left (Nat.le_of_lt hlt)] at HF hR8
            go_wp2_with fail
            go_roundw
            case rel =>
              have hjj := Hj.out
              have hjl : j ≤ 200 := by omega
              refine ⟨k + 1, .slice (some ⟨g, 0, none⟩) (k + 1) cap, by omega, ?_, ?_, ?_, ?_⟩
              · rw [show rs.length - (k + 1) = j by omega, wrapj j hjl]
              · rw [hsn.out]
                with_reducible exact HF.out
              · with_reducible exact hR8
              · with_reducible exact hB8.setCell hw2.out _
            case measure =>
              have hjj := Hj.out
              have hjl : j ≤ 200 := by omega
              exact meas_j j hjl
    · obtain rfl : k = rs.length := by omega
      rw [List.take_length] at hD
      rw [List.drop_length] at hR
      have hR : Rd wr w.heap.size [] false := hR
      simp only [Nat.sub_self]
      have HD := hid hD
      have HB := hid hB
      clear hD hB
      go_wp2_with fail
      refine (done_any _ _ _ _ hR).mono ?_
      rintro e w4 ⟨rfl, hB4⟩
      have H4 := hid (HD.out.below hB4)
      have B4 := hid (HB.out.trans (hB4.mono HB.out.size))
      clear hB4 HD HB hR
      obtain ⟨A, c, rfl, _, _, _⟩ := H4.out.row
      obtain ⟨d0, d1⟩ := dk2 H4.out
      have hz4 := H4.out.d.lt
      have hnn : ¬ (200 : Int) < rs.length := by omega
      rcases hme with rfl | rfl
      all_goals
        go_wp2_with fail
        refine (dbytes_any H4.out (by simp [I64]) HRI.out (by omega) (he.below B4.out)).mono ?_
        rintro e w5 ⟨rfl, hB5⟩
        go_wp2_with fail
        go_ret2
        exact ⟨bd, _, rfl, hw2.out, H4.out.below hB5, B4.out.trans (hB5.mono B4.out.size)⟩
end Go.Proofs.YtfofmbmmighdiaaDoor
