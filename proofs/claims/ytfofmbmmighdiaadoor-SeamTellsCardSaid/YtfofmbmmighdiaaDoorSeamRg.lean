
/- Seam: the reference's Bytes. -/
import Derived.Test.YtfofmbmmighdiaaDoorSeamRa
import Derived.Test.YtfofmbmmighdiaaDoorSeamG
import Derived.Test.YtfofmbmmighdiaaDoorSeamE
import Derived.Test.YtfofmbmmighdiaaDoorWireB
set_option linter.unusedSimpArgs false
set_option linter.unusedVariables false
namespace Go.Proofs.YtfofmbmmighdiaaDoor
open Go.RowKit Go.IntWalk

def encAt (me : Int) (rs : List Rob) (k : Nat) : List UInt8 := encDh me rs.length ++ ((rs.take k).map encRb).flatten
theorem encAt_all (me : Int) (rs : List Rob) : encAt me rs rs.length = encD me rs := by simp [encAt, encD]
theorem encAt_step (me : Int) (rs : List Rob) (k : Nat) (hk : k < rs.length) : encAt me rs (k + 1) = encAt me rs k ++ encI rs[k].1 ++ encI rs[k].2.1 ++ encI (fb rs[k].2.2) := by
  unfold encAt
  rw [List.take_add_one, List.getElem?_eq_getElem hk, List.map_append, List.flatten_append]
  simp only [Option.toList_some, List.map_cons, List.map_nil, List.flatten_cons, List.flatten_nil, List.append_nil, encRb, List.append_assoc]
theorem encAt_le (me : Int) (rs : List Rob) (k : Nat) (hme : I64 me) (hr : ∀ r ∈ rs, RobI r) (hn : rs.length ≤ 210) : (encAt me rs k).length ≤ 20000 := by
  have h1 := flat66 ((rs.take k).map encRb) (by
    intro y hy
    obtain ⟨x, hx, rfl⟩ := List.mem_map.1 hy
    exact encRb_le x (hr x (List.mem_of_mem_take hx)))
  rw [List.length_map, List.length_take] at h1
  have h2 := encI_le me hme
  have h3 := encI_le rs.length ⟨by omega, by omega⟩
  have : min k rs.length ≤ 210 := by omega
  simp only [encAt, encDh, List.length_append]
  omega
set_option maxRecDepth 100000 in
set_option maxHeartbeats 4000000 in
theorem rdbytes_any {w : World} {base b : Nat} {v : Value} {me : Int} {rs : List Rob} (h : Dr w base b v me rs) (hme : I64 me) (hr : ∀ r ∈ rs, RobI r) (hn : rs.length ≤ 210) :
    Calls Tryd.prog 14 #[.pointer (some ⟨b, 0, none⟩)] w fun e w' => e = .returned (.string (bs (encD me rs))) ∧ Below w.heap.size w w' := by
  obtain ⟨A, c, rfl, _, _, hA⟩ := h.row
  have H0 := hid h
  obtain ⟨d0, d1⟩ := dr2 h
  have hz := h.d.lt
  have HR := hid hr
  have HA := hid hA
  have Hm := hid hme
  have hs1 : (bs (encI me)).size ≤ 22 := by rw [bs_size]; exact encI_le me hme
  have hs2 : (bs (encI rs.length)).size ≤ 22 := by rw [bs_size]; exact encI_le _ ⟨by omega, by omega⟩
  clear hr hA hme
  go_enter Tryd.func14, Tryd.ntmps14
  go_upto_region 1 with fail
  have hx := fun x : Ext (GB w) => GB.cell x
  have ca := hid fun x : Ext (GB w) => GB.call (rInt_any me Hm.out x.w)
  have cb := hid fun x : Ext (GB w) => GB.call (x := x) (v := .string (bs (encI rs.length))) (by
    have := rNum_any rs.length ⟨by omega, by omega⟩ x.w
    rw [if_neg (by omega)] at this
    exact this)
  refine wp_region_ext (GB w) (by kernel_rfl) (by kernel_rfl) (GB.refl _) ?_
  repeat (go_big_quiet_step (first | with_reducible exact ca.out _ | with_reducible exact cb.out _))
  refine wpQuiet_nil ?_
  intro w1 hG
  have hB1 := hid hG.out
  clear hx ca cb hG hs1 hs2
  rw [show bs (encI me) ++ bs (encI rs.length) = bs (encAt me rs 0) by rw [bs_app]; simp [encAt, encDh]]
  go_wp2_with fail
  go_loopw [3, 4] (fun s i wr => ∃ k : Nat, k ≤ rs.length ∧ s = .string (bs (encAt me rs k)) ∧ i = .int .i64 k ∧ Below w.heap.size w wr) (fun _ i _ => rs.length - (intOf i).toNat)
  case atStart => exact ⟨0, by omega, rfl, rfl, hB1.out⟩
  case round =>
    clear hB1
    obtain ⟨k, hk, rfl, rfl, hB⟩ := hrel
    have hD := H0.out.below hB
    by_cases hlt : k < rs.length
    · obtain ⟨g, rfl, _, hgz, _⟩ := HA.out (by intro hh; simp [hh] at hlt)
      obtain ⟨z0, z1, z2, fz⟩ := H0.out.at_ hlt
      clear fz
      obtain ⟨e0, e1⟩ := dr2 hD
      have hst := hid (encAt_step me rs k hlt)
      have hI := HR.out _ (List.getElem_mem hlt)
      have hlt' : (k : Int) < rs.length := by omega
      have hsz := hB.size
      have hzb : b < wr.heap.size := by omega
      have hzg : g < wr.heap.size := by omega
      generalize rs[k] = r at *
      obtain ⟨p, n, f⟩ := r
      simp only at z0 z1 z2
      have Z0 := hid z0; have Z1 := hid z1; have Z2 := hid z2
      clear z0 z1 z2
      have x0 := (bcell hB g _ hgz).trans Z0.out; have x1 := (bcell hB g _ hgz).trans Z1.out; have x2 := (bcell hB g _ hgz).trans Z2.out
      have ha0 := encAt_le me rs k Hm.out HR.out hn
      generalize hacc : encAt me rs k = acc at *
      have hs0 : (bs acc).size ≤ 20000 := by rw [bs_size]; exact ha0
      have hs1 : (bs (encI p)).size ≤ 22 := by rw [bs_size]; exact encI_le p hI.1
      have hs2 : (bs (encI n)).size ≤ 22 := by rw [bs_size]; exact encI_le n hI.2
      have hs3 : (bs acc ++ bs (encI p)).size ≤ 20022 := by rw [bs_app, bs_size, List.length_append]; have := encI_le p hI.1; omega
      go_wp2_with fail
      have hx := fun x : Ext (GB wr) => GB.cell x
      have ca := hid fun x : Ext (GB wr) => GB.call (rInt_any p hI.1 x.w)
      have cb := hid fun x : Ext (GB wr) => GB.call (rInt_any n hI.2 x.w)
      refine wp_region_ext (GB wr) (by kernel_rfl) (by kernel_rfl) (GB.refl _) ?_
      repeat (go_big_quiet_step (first | with_reducible exact ca.out _ | with_reducible exact cb.out _))
      refine wpQuiet_nil ?_
      intro w2 hG
      have hB2 := hB.trans (hG.out.mono hB.size)
      have hD2 := H0.out.below hB2
      clear x0 x1 x2 e0 e1 hx ca cb
      have y2 := (bcell hB2 g _ hgz).trans Z2.out
      obtain ⟨e0, e1⟩ := dr2 hD2
      have hzb2 : b < w2.heap.size := by have := hB2.size; omega
      have hzg2 : g < w2.heap.size := by have := hB2.size; omega
      have hB2' := hid hB2
      have hs4 : (bs acc ++ bs (encI p) ++ bs (encI n)).size ≤ 20044 := by rw [bs_app, bs_app, bs_size, List.length_append, List.length_append]; have := encI_le p hI.1; have := encI_le n hI.2; omega
      clear hB2 hD hD2 hG hB Z0 Z1 Z2
      cases f with
      | true =>
        have hst2 : Hid (bs acc ++ bs (encI p) ++ bs (encI n) ++ bs (encI 1) = bs (encAt me rs (k + 1))) := hid (by rw [hst.out, bs_app, bs_app, bs_app]; rfl)
        have hs5 : (bs (encI 1)).size ≤ 22 := by rw [bs_size]; exact encI_le _ ⟨by omega, by omega⟩
        go_wp2_with fail
        refine (rInt_any 1 ⟨by omega, by omega⟩ _).mono ?_
        rintro e w3 ⟨rfl, hB3⟩
        have hB4 := hid (hB2'.out.trans (hB3.mono hB2'.out.size))
        clear hB3
        go_wp2_with fail
        go_roundw
        case rel => exact ⟨k + 1, by omega, by rw [hst2.out], by go_num, hB4.out⟩
        case measure => simp [intOf]; omega
      | false =>
        have hst2 : Hid (bs acc ++ bs (encI p) ++ bs (encI n) ++ bs (encI 0) = bs (encAt me rs (k + 1))) := hid (by rw [hst.out, bs_app, bs_app, bs_app]; rfl)
        have hs5 : (bs (encI 0)).size ≤ 22 := by rw [bs_size]; exact encI_le _ ⟨by omega, by omega⟩
        go_wp2_with fail
        refine (rInt_any 0 ⟨by omega, by omega⟩ _).mono ?_
        rintro e w3 ⟨rfl, hB3⟩
        have hB4 := hid (hB2'.out.trans (hB3.mono hB2'.out.size))
        clear hB3
        go_wp2_with fail
        go_roundw
        case rel => exact ⟨k + 1, by omega, by rw [hst2.out], by go_num, hB4.out⟩
        case measure => simp [intOf]; omega
    · obtain rfl : k = rs.length := by omega
      rw [encAt_all]
      obtain ⟨e0, e1⟩ := dr2 hD
      go_wp2_with fail
      go_ret
      exact ⟨rfl, hB⟩
end Go.Proofs.YtfofmbmmighdiaaDoor
